/-
  Several texts in one.
-/
import Derived.Test.YtldccpmnboebmaaDoorBase
import Derived.Test.YtldccpmnboebmaaDoorProg
import Derived.Test.YtldccpmnboebmaaDoorVb
import Derived.Test.YtldccpmnboebmaaDoorM1
import Derived.Test.YtldccpmnboebmaaDoorVa
import Derived.Laws.Rows
import Derived.BigQuiet
import Derived.Deep.QuietTactic
import Derived.Lib.QuietBelow
import Derived.Deep.DeepCutAuto
import Derived.Deep.RegionHeld3
/-! Oi -/
namespace Go.Proofs.YtldccpmnboebmaaDoor
open Go.RowKit
theorem opens_ints : Opens Tryd.prog 42 (pSl (pI .i64)) := opens_slice Tryd.underlying42 (by kernel_rfl) (by decide) (opens_int Tryd.underlying3)
end Go.Proofs.YtldccpmnboebmaaDoor

/-! Vc -/
namespace Go.Proofs.YtldccpmnboebmaaDoor
open Go.RowKit
set_option linter.unusedVariables false

def pVec : Rp V3 where
  n := 3
  R _ _ cs v := cs = [.int .i64 v.1, .int .i64 v.2.1, .int .i64 v.2.2] ∧ FitV v
  len := by rintro F w cs x ⟨rfl, _⟩; rfl
  keep := by rintro F w w' cs x h _; exact h
  wide := by rintro F F' w cs x h _; exact h
  one := by
    rintro F w cs x ⟨rfl, _⟩ v hv
    simp at hv
    rcases hv with rfl | rfl | rfl <;> rfl
def pFr : Rp Fr where
  n := 4
  R _ _ cs f := cs = [.int .u8 f.1, .int .i64 f.2.1, .int .i64 f.2.2.1, .int .i64 f.2.2.2] ∧ Fits .u8 f.1 ∧ FitV f.2
  len := by rintro F w cs x ⟨rfl, _⟩; rfl
  keep := by rintro F w w' cs x h _; exact h
  wide := by rintro F F' w cs x h _; exact h
  one := by
    rintro F w cs x ⟨rfl, _⟩ v hv
    simp at hv
    rcases hv with rfl | rfl | rfl | rfl <;> rfl
abbrev Tur := Fr × Int
def pTur : Rp Tur where
  n := 5
  R _ _ cs f := cs = [.int .u8 f.1.1, .int .i64 f.1.2.1, .int .i64 f.1.2.2.1, .int .i64 f.1.2.2.2, .int .i64 f.2] ∧ Fits .u8 f.1.1 ∧ FitV f.1.2 ∧ Fits .i64 f.2
  len := by rintro F w cs x ⟨rfl, _⟩; rfl
  keep := by rintro F w w' cs x h _; exact h
  wide := by rintro F F' w cs x h _; exact h
  one := by
    rintro F w cs x ⟨rfl, _⟩ v hv
    simp at hv
    rcases hv with rfl | rfl | rfl | rfl | rfl <;> rfl
def pTrk : Rp Trk where
  n := 7
  R F w cs t := ∃ A c B d, cs = [.slice A t.lines.length c, .slice B t.marks.length d, .int .u8 t.fr.1, .int .i64 t.fr.2.1, .int .i64 t.fr.2.2.1, .int .i64 t.fr.2.2.2, .int .i64 t.drawn] ∧ SlAt pLn F w A c t.lines ∧ SlAt pMk F w B d t.marks ∧ Fits .u8 t.fr.1 ∧ FitV t.fr.2 ∧ Fits .i64 t.drawn
  len := by rintro F w cs x ⟨A, c, B, d, rfl, _⟩; rfl
  keep := by rintro F w w' cs x ⟨A, c, B, d, rfl, h1, h2, h3⟩ k; exact ⟨A, c, B, d, rfl, h1.keep k, h2.keep k, h3⟩
  wide := by rintro F F' w cs x ⟨A, c, B, d, rfl, h1, h2, h3⟩ k; exact ⟨A, c, B, d, rfl, h1.wide k, h2.wide k, h3⟩
  one := by
    rintro F w cs x ⟨A, c, B, d, rfl, _⟩ v hv
    simp at hv
    rcases hv with rfl | rfl | rfl | rfl | rfl | rfl | rfl <;> rfl
section
variable {P : Program} {t : TypeId}
theorem opens_vec {f0 f1 f2 : Field} (ht : P.underlying t = some (.struct #[f0, f1, f2])) (hc : P.cellsOf t = 3) (ho : [f0, f1, f2].map (fun f => (f.offset, P.cellsOf f.type)) = [(0, 1), (1, 1), (2, 1)])
    (o0 : Opens P f0.type (pI .i64)) (o1 : Opens P f1.type (pI .i64)) (o2 : Opens P f2.type (pI .i64)) : Opens P t pVec := by
  intro H enc w fuel cs x h
  simp only [List.map_cons, List.map_nil, List.cons.injEq, Prod.mk.injEq, and_true] at ho
  obtain ⟨a0, a1, a2⟩ := ho
  obtain ⟨xs, n, rfl, rfl, hl, hlen, hf⟩ := DataW.trod_struct ht h
  rw [hc] at hl
  match cs, hl with
  | [c0, c1, c2], _ =>
    obtain ⟨y0, hy0⟩ := opens_field (f := f0) hlen (i := 0) rfl (hf 0 f0 rfl) o0
    obtain ⟨y1, hy1⟩ := opens_field (f := f1) hlen (i := 1) rfl (hf 1 f1 rfl) o1
    obtain ⟨y2, hy2⟩ := opens_field (f := f2) hlen (i := 2) rfl (hf 2 f2 rfl) o2
    rw [a0.1, a0.2] at hy0
    rw [a1.1, a1.2] at hy1
    rw [a2.1, a2.2] at hy2
    obtain ⟨e0, z0⟩ := hy0
    obtain ⟨e1, z1⟩ := hy1
    obtain ⟨e2, z2⟩ := hy2
    simp at e0 e1 e2
    subst e0 e1 e2
    exact ⟨(y0, y1, y2), rfl, z0, z1, z2⟩
theorem opens_fr {f0 f1 : Field} (ht : P.underlying t = some (.struct #[f0, f1])) (hc : P.cellsOf t = 4) (ho : [f0, f1].map (fun f => (f.offset, P.cellsOf f.type)) = [(0, 1), (1, 3)])
    (o0 : Opens P f0.type (pI .u8)) (o1 : Opens P f1.type pVec) : Opens P t pFr := by
  intro H enc w fuel cs x h
  simp only [List.map_cons, List.map_nil, List.cons.injEq, Prod.mk.injEq, and_true] at ho
  obtain ⟨a0, a1⟩ := ho
  obtain ⟨xs, n, rfl, rfl, hl, hlen, hf⟩ := DataW.trod_struct ht h
  rw [hc] at hl
  match cs, hl with
  | [c0, c1, c2, c3], _ =>
    obtain ⟨y0, hy0⟩ := opens_field (f := f0) hlen (i := 0) rfl (hf 0 f0 rfl) o0
    obtain ⟨y1, hy1⟩ := opens_field (f := f1) hlen (i := 1) rfl (hf 1 f1 rfl) o1
    rw [a0.1, a0.2] at hy0
    rw [a1.1, a1.2] at hy1
    obtain ⟨e0, z0⟩ := hy0
    obtain ⟨e1, z1⟩ := hy1
    simp at e0 e1
    obtain ⟨e1, e2, e3⟩ := e1
    subst e0 e1 e2 e3
    exact ⟨(y0, y1), rfl, z0, z1⟩
theorem opens_tur {f0 f1 : Field} (ht : P.underlying t = some (.struct #[f0, f1])) (hc : P.cellsOf t = 5) (ho : [f0, f1].map (fun f => (f.offset, P.cellsOf f.type)) = [(0, 4), (4, 1)])
    (o0 : Opens P f0.type pFr) (o1 : Opens P f1.type (pI .i64)) : Opens P t pTur := by
  intro H enc w fuel cs x h
  simp only [List.map_cons, List.map_nil, List.cons.injEq, Prod.mk.injEq, and_true] at ho
  obtain ⟨a0, a1⟩ := ho
  obtain ⟨xs, n, rfl, rfl, hl, hlen, hf⟩ := DataW.trod_struct ht h
  rw [hc] at hl
  match cs, hl with
  | [c0, c1, c2, c3, c4], _ =>
    obtain ⟨y0, hy0⟩ := opens_field (f := f0) hlen (i := 0) rfl (hf 0 f0 rfl) o0
    obtain ⟨y1, hy1⟩ := opens_field (f := f1) hlen (i := 1) rfl (hf 1 f1 rfl) o1
    rw [a0.1, a0.2] at hy0
    rw [a1.1, a1.2] at hy1
    obtain ⟨e0, z0⟩ := hy0
    obtain ⟨e1, z1⟩ := hy1
    simp at e0 e1
    obtain ⟨e0, e2, e3, e4⟩ := e0
    subst e0 e1 e2 e3 e4
    exact ⟨(y0, y1), rfl, z0.1, z0.2, z1⟩
theorem opens_ln {f0 f1 f2 : Field} (ht : P.underlying t = some (.struct #[f0, f1, f2])) (hc : P.cellsOf t = 7) (ho : [f0, f1, f2].map (fun f => (f.offset, P.cellsOf f.type)) = [(0, 3), (3, 3), (6, 1)])
    (o0 : Opens P f0.type pVec) (o1 : Opens P f1.type pVec) (o2 : Opens P f2.type (pI .i64)) : Opens P t pLn := by
  intro H enc w fuel cs x h
  simp only [List.map_cons, List.map_nil, List.cons.injEq, Prod.mk.injEq, and_true] at ho
  obtain ⟨a0, a1, a2⟩ := ho
  obtain ⟨xs, n, rfl, rfl, hl, hlen, hf⟩ := DataW.trod_struct ht h
  rw [hc] at hl
  match cs, hl with
  | [c0, c1, c2, c3, c4, c5, c6], _ =>
    obtain ⟨y0, hy0⟩ := opens_field (f := f0) hlen (i := 0) rfl (hf 0 f0 rfl) o0
    obtain ⟨y1, hy1⟩ := opens_field (f := f1) hlen (i := 1) rfl (hf 1 f1 rfl) o1
    obtain ⟨y2, hy2⟩ := opens_field (f := f2) hlen (i := 2) rfl (hf 2 f2 rfl) o2
    rw [a0.1, a0.2] at hy0
    rw [a1.1, a1.2] at hy1
    rw [a2.1, a2.2] at hy2
    obtain ⟨e0, z0⟩ := hy0
    obtain ⟨e1, z1⟩ := hy1
    obtain ⟨e2, z2⟩ := hy2
    simp at e0 e1 e2
    obtain ⟨e0, e3, e4⟩ := e0
    obtain ⟨e1, e5, e6⟩ := e1
    subst e0 e1 e2 e3 e4 e5 e6
    exact ⟨⟨y0, y1, y2⟩, rfl, z0, z1, z2⟩
theorem opens_mk {f0 f1 : Field} (ht : P.underlying t = some (.struct #[f0, f1])) (hc : P.cellsOf t = 5) (ho : [f0, f1].map (fun f => (f.offset, P.cellsOf f.type)) = [(0, 1), (1, 4)])
    (o0 : Opens P f0.type (pI .u8)) (o1 : Opens P f1.type pFr) : Opens P t pMk := by
  intro H enc w fuel cs x h
  simp only [List.map_cons, List.map_nil, List.cons.injEq, Prod.mk.injEq, and_true] at ho
  obtain ⟨a0, a1⟩ := ho
  obtain ⟨xs, n, rfl, rfl, hl, hlen, hf⟩ := DataW.trod_struct ht h
  rw [hc] at hl
  match cs, hl with
  | [c0, c1, c2, c3, c4], _ =>
    obtain ⟨y0, hy0⟩ := opens_field (f := f0) hlen (i := 0) rfl (hf 0 f0 rfl) o0
    obtain ⟨y1, hy1⟩ := opens_field (f := f1) hlen (i := 1) rfl (hf 1 f1 rfl) o1
    rw [a0.1, a0.2] at hy0
    rw [a1.1, a1.2] at hy1
    obtain ⟨e0, z0⟩ := hy0
    obtain ⟨e1, z1⟩ := hy1
    simp at e0 e1
    obtain ⟨e1, e2, e3, e4⟩ := e1
    subst e0 e1 e2 e3 e4
    exact ⟨⟨y0, y1.1, y1.2⟩, rfl, z0, z1.1, z1.2⟩
theorem opens_trk {f0 f1 f2 : Field} (ht : P.underlying t = some (.struct #[f0, f1, f2])) (hc : P.cellsOf t = 7) (ho : [f0, f1, f2].map (fun f => (f.offset, P.cellsOf f.type)) = [(0, 1), (1, 1), (2, 5)])
    (o0 : Opens P f0.type (pSl pLn)) (o1 : Opens P f1.type (pSl pMk)) (o2 : Opens P f2.type pTur) : Opens P t pTrk := by
  intro H enc w fuel cs x h
  simp only [List.map_cons, List.map_nil, List.cons.injEq, Prod.mk.injEq, and_true] at ho
  obtain ⟨a0, a1, a2⟩ := ho
  obtain ⟨xs, n, rfl, rfl, hl, hlen, hf⟩ := DataW.trod_struct ht h
  rw [hc] at hl
  match cs, hl with
  | [c0, c1, c2, c3, c4, c5, c6], _ =>
    obtain ⟨y0, hy0⟩ := opens_field (f := f0) hlen (i := 0) rfl (hf 0 f0 rfl) o0
    obtain ⟨y1, hy1⟩ := opens_field (f := f1) hlen (i := 1) rfl (hf 1 f1 rfl) o1
    obtain ⟨y2, hy2⟩ := opens_field (f := f2) hlen (i := 2) rfl (hf 2 f2 rfl) o2
    rw [a0.1, a0.2] at hy0
    rw [a1.1, a1.2] at hy1
    rw [a2.1, a2.2] at hy2
    obtain ⟨A, c, e0, s0⟩ := hy0
    obtain ⟨B, d, e1, s1⟩ := hy1
    obtain ⟨e2, z2⟩ := hy2
    simp at e0 e1 e2
    obtain ⟨e2, e3, e4, e5, e6⟩ := e2
    subst e0 e1 e2 e3 e4 e5 e6
    exact ⟨⟨y0, y1, y2.1, y2.2⟩, A, c, B, d, rfl, s0, s1, z2.1, z2.2.1, z2.2.2⟩
end
theorem opens_vec' : Opens Tryd.prog 24 pVec := opens_vec Tryd.underlying24 (by kernel_rfl) (by kernel_rfl) (opens_int Tryd.underlying3) (opens_int Tryd.underlying3) (opens_int Tryd.underlying3)
theorem opens_frame : Opens Tryd.prog 26 pFr := opens_fr Tryd.underlying26 (by kernel_rfl) (by kernel_rfl) (opens_int Tryd.underlying5) opens_vec'
theorem opens_turtle : Opens Tryd.prog 28 pTur := opens_tur Tryd.underlying28 (by kernel_rfl) (by kernel_rfl) opens_frame (opens_int Tryd.underlying3)
theorem opens_line : Opens Tryd.prog 46 pLn := opens_ln Tryd.underlying46 (by kernel_rfl) (by kernel_rfl) opens_vec' opens_vec' (opens_int Tryd.underlying3)
theorem opens_lines : Opens Tryd.prog 33 (pSl pLn) := opens_slice Tryd.underlying33 (by kernel_rfl) (by decide) opens_line
theorem opens_mark : Opens Tryd.prog 65 pMk := opens_mk Tryd.underlying65 (by kernel_rfl) (by kernel_rfl) (opens_int Tryd.underlying5) opens_frame
theorem opens_marks : Opens Tryd.prog 34 (pSl pMk) := opens_slice Tryd.underlying34 (by kernel_rfl) (by decide) opens_mark
theorem opens_track : Opens Tryd.prog 36 pTrk := opens_trk Tryd.underlying36 (by kernel_rfl) (by kernel_rfl) opens_lines opens_marks opens_turtle
end Go.Proofs.YtldccpmnboebmaaDoor

/-! Aa -/
namespace Go.Proofs.YtldccpmnboebmaaDoor
open Go.RowKit
set_option linter.unusedVariables false

/-! ### turns by quarters -/
def axM (m : M3) : Nat → V3
  | 0 => m.1
  | 1 => m.2.1
  | _ => m.2.2
def putM (m : M3) (i : Nat) (v : V3) : M3 := match i with
  | 0 => (v, m.2.1, m.2.2)
  | 1 => (m.1, v, m.2.2)
  | _ => (m.1, m.2.1, v)
def negV (v : V3) : V3 := (-v.1, -v.2.1, -v.2.2)
/-- one quarter: the axis a goes to b, and b to the opposite of a -/
def quM (a b : Nat) (m : M3) : M3 := putM (putM m a (axM m b)) b (negV (axM m a))
def itM (a b : Nat) : Nat → M3 → M3
  | 0, m => m
  | k + 1, m => itM a b k (quM a b m)
theorem itM_succ (a b : Nat) : ∀ (k : Nat) (m : M3), itM a b (k + 1) m = quM a b (itM a b k m)
  | 0, _ => rfl
  | k + 1, m => itM_succ a b k (quM a b m)
def rotF (a b : Nat) (n : Int) (t : Nat) : Nat := namedF (itM a b (n % 4).toNat (axT t))
theorem q4 (n : Int) : (n % 4).toNat < 4 := by omega
theorem rot_chk : ∀ (i : Fin 5) (q : Fin 4) (t : Fin 24), axT (namedF (itM ([0, 1, 0, 2, 1].getD i.val 0) ([1, 0, 2, 0, 2].getD i.val 0) q.val (axT t.val))) = itM ([0, 1, 0, 2, 1].getD i.val 0) ([1, 0, 2, 0, 2].getD i.val 0) q.val (axT t.val) := by decide +kernel
/-- the pairs of axes that occur -/
def Pair5 (a b : Nat) : Prop := (a = 0 ∧ b = 1) ∨ (a = 1 ∧ b = 0) ∨ (a = 0 ∧ b = 2) ∨ (a = 2 ∧ b = 0) ∨ (a = 1 ∧ b = 2)
theorem rot_ax {a b : Nat} (h : Pair5 a b) (n : Int) {t : Nat} (ht : t < 24) : axT (rotF a b n t) = itM a b (n % 4).toNat (axT t) := by
  unfold rotF
  rcases h with ⟨rfl, rfl⟩ | ⟨rfl, rfl⟩ | ⟨rfl, rfl⟩ | ⟨rfl, rfl⟩ | ⟨rfl, rfl⟩
  · exact rot_chk 0 ⟨_, q4 n⟩ ⟨t, ht⟩
  · exact rot_chk 1 ⟨_, q4 n⟩ ⟨t, ht⟩
  · exact rot_chk 2 ⟨_, q4 n⟩ ⟨t, ht⟩
  · exact rot_chk 3 ⟨_, q4 n⟩ ⟨t, ht⟩
  · exact rot_chk 4 ⟨_, q4 n⟩ ⟨t, ht⟩
theorem rot_lt (a b : Nat) (n : Int) (t : Nat) : rotF a b n t < 24 := namedF_lt _
/-- the program's turn about an axis: 2, 1, 0 -/
def abtA (x : Nat) : Nat := (x + 1) % 3
def abtB (x : Nat) : Nat := (x + 2) % 3
def aboutF (x : Nat) (n : Int) : Nat := namedF (itM (abtA x) (abtB x) (n % 4).toNat (axT 0))
theorem about_chk : ∀ (x : Fin 3) (q : Fin 4) (t : Fin 24), namedF (compT (namedF (itM (abtA x.val) (abtB x.val) q.val (axT 0))) t.val) = namedF (itM (abtA x.val) (abtB x.val) q.val (axT t.val)) := by decide +kernel
theorem about_rot {x : Nat} (hx : x < 3) (n : Int) {t : Nat} (ht : t < 24) : namedF (compT (aboutF x n) t) = rotF (abtA x) (abtB x) n t := about_chk ⟨x, hx⟩ ⟨_, q4 n⟩ ⟨t, ht⟩
theorem back_chk : ∀ (q : Fin 4) (t : Fin 24), namedF (itM 0 1 ((4 - q.val) % 4) (axT t.val)) = namedF (itM 1 0 q.val (axT t.val)) ∧ namedF (itM 2 0 ((4 - q.val) % 4) (axT t.val)) = namedF (itM 0 2 q.val (axT t.val)) := by decide +kernel
theorem neg4 (n : Int) : (-n % 4).toNat = (4 - (n % 4).toNat) % 4 := by omega
theorem rot_back1 (n : Int) {t : Nat} (ht : t < 24) : rotF 0 1 (-n) t = rotF 1 0 n t := by
  unfold rotF
  rw [neg4]
  exact (back_chk ⟨_, q4 n⟩ ⟨t, ht⟩).1
theorem rot_back2 (n : Int) {t : Nat} (ht : t < 24) : rotF 2 0 (-n) t = rotF 0 2 n t := by
  unfold rotF
  rw [neg4]
  exact (back_chk ⟨_, q4 n⟩ ⟨t, ht⟩).2
/-! ### bends -/
def bendT (d t : Nat) : Nat :=
  if dotV (dirV d) (axT t).1 ≠ 0 then t
  else if dotV (dirV d) (axT t).2.1 = 0 then rotF 0 2 (dotV (dirV d) (axT t).2.2) t else rotF 0 1 (dotV (dirV d) (axT t).2.1) t
def bendP (d t : Nat) : Nat :=
  if dirV d = (axT t).2.1 then rotF 0 1 1 t else if dirV d = negV (axT t).2.1 then rotF 0 1 (-1) t
  else if dirV d = (axT t).2.2 then rotF 2 0 (-1) t else if dirV d = negV (axT t).2.2 then rotF 2 0 1 t else t
theorem bend_chk : ∀ (d : Fin 6) (t : Fin 24), bendP d.val t.val = bendT d.val t.val ∧ bendT d.val t.val < 24 ∧ dotV (axT (bendT d.val t.val)).1 (dirV d.val) ≠ 0 := by decide +kernel
theorem dot_chk : ∀ (d : Fin 6) (t : Fin 24), (dotV (dirV d.val) (axT t.val).1 = 0 → dotV (dirV d.val) (axT t.val).2.1 = 0 → dotV (dirV d.val) (axT t.val).2.2 = 1 ∨ dotV (dirV d.val) (axT t.val).2.2 = -1) ∧ (dotV (dirV d.val) (axT t.val).2.1 = 0 ∨ dotV (dirV d.val) (axT t.val).2.1 = 1 ∨ dotV (dirV d.val) (axT t.val).2.1 = -1) := by decide +kernel
/-! ### a turtle's steps -/
abbrev Trop := Int × Int
def stepN (m : Mod) : Int := m.args.head?.getD 1
def aheadF (n : Int) (f : Fr) : Fr := (f.1, addV f.2 (mulV n (axT f.1.toNat).1))
def turnF (a b : Nat) (n : Int) (c : Tur) : Tur := ((((rotF a b n c.1.1.toNat : Nat) : Int), c.1.2), c.2)
def bendF (b : Trop) (c : Tur) : Tur := if b.2 = 0 ∨ c.2 % b.2 ≠ 0 then c else ((((bendT b.1.toNat c.1.1.toNat : Nat) : Int), c.1.2), c.2)
structure Sta where
  cur : Tur
  stk : List Tur
  lns : List Ln
  mks : List Mk
def takeF (b : Trop) (s : Sta) (m : Mod) : Option Sta :=
  if m.name = 70 then
    (if inV (-1000000) (aheadF (stepN m) s.cur.1).2 = true then
      (if 1000000 < s.cur.2 + 1 then none
       else some ⟨bendF b (aheadF (stepN m) s.cur.1, s.cur.2 + 1), s.stk, s.lns ++ [⟨s.cur.1.2, (aheadF (stepN m) s.cur.1).2, s.stk.length⟩], s.mks⟩)
     else none)
  else if m.name = 102 then
    (if inV (-1000000) (aheadF (stepN m) s.cur.1).2 = true then some ⟨(aheadF (stepN m) s.cur.1, s.cur.2), s.stk, s.lns, s.mks⟩ else none)
  else if m.name = 43 then some ⟨turnF 0 1 (stepN m) s.cur, s.stk, s.lns, s.mks⟩
  else if m.name = 45 then some ⟨turnF 1 0 (stepN m) s.cur, s.stk, s.lns, s.mks⟩
  else if m.name = 94 then some ⟨turnF 0 2 (stepN m) s.cur, s.stk, s.lns, s.mks⟩
  else if m.name = 38 then some ⟨turnF 2 0 (stepN m) s.cur, s.stk, s.lns, s.mks⟩
  else if m.name = 33 then some ⟨turnF 1 2 (stepN m) s.cur, s.stk, s.lns, s.mks⟩
  else if m.name = 124 then some ⟨turnF 0 1 2 s.cur, s.stk, s.lns, s.mks⟩
  else if m.name = 91 then some ⟨s.cur, s.stk ++ [s.cur], s.lns, s.mks⟩
  else if m.name = 93 then (match s.stk.getLast? with
    | some c => some ⟨c, s.stk.dropLast, s.lns, s.mks⟩
    | none => none)
  else some ⟨s.cur, s.stk, s.lns, s.mks ++ [⟨m.name, s.cur.1.1, s.cur.1.2⟩]⟩
def runF (b : Trop) : Sta → List Mod → Option Sta
  | s, [] => some s
  | s, m :: ms => match takeF b s m with
    | some s' => runF b s' ms
    | none => none
theorem runF_app (b : Trop) : ∀ (ms ns : List Mod) (s : Sta), runF b s (ms ++ ns) = (runF b s ms).bind fun s' => runF b s' ns
  | [], ns, s => rfl
  | m :: ms, ns, s => by
    rw [List.cons_append, runF, runF]
    cases takeF b s m with
    | none => rfl
    | some s' => exact runF_app b ms ns s'
def beginF (t : Tur) : Sta := ⟨t, [], [], []⟩
def trkOf (s : Sta) : Trk := ⟨s.lns, s.mks, s.cur.1, s.cur.2⟩
def zeroTr : Trk := ⟨[], [], (0, (0, 0, 0)), 0⟩
def runT (w : List Mod) (t : Tur) (b : Trop) : Trk × Int :=
  if checkF w = 0 then (if checkFr t.1 = 0 ∧ 0 ≤ t.2 ∧ t.2 ≤ 1000000 then (if b.1 ≤ 5 ∧ 0 ≤ b.2 ∧ b.2 ≤ 1000000 then (match runF b (beginF t) w with
    | some s => (trkOf s, 0)
    | none => (zeroTr, 16)) else (zeroTr, 2)) else (zeroTr, 8)) else (zeroTr, checkF w)
/-! ### a turtle in order -/
structure TurOk (c : Tur) : Prop where
  lo : 0 ≤ c.1.1
  ck : checkFr c.1 = 0
  d0 : 0 ≤ c.2
  d1 : c.2 ≤ 1000000
theorem TurOk.lt {c : Tur} (h : TurOk c) : c.1.1.toNat < 24 := by have := (checkFr_ok h.ck).1; have := h.lo; omega
theorem TurOk.nat {c : Tur} (h : TurOk c) : ((c.1.1.toNat : Nat) : Int) = c.1.1 := by have := h.lo; omega
theorem checkFr_of {f : Fr} (h : f.1 < 24) (h2 : inV (-1000000) f.2 = true) : checkFr f = 0 := by unfold checkFr; rw [if_pos h, if_pos h2]
theorem TurOk.turn {c : Tur} (h : TurOk c) (t : Nat) (ht : t < 24) : TurOk (((t : Int), c.1.2), c.2) :=
  ⟨by simp, checkFr_of (by simp; omega) (checkFr_ok h.ck).2, h.d0, h.d1⟩
structure StaOk (s : Sta) : Prop where
  cur : TurOk s.cur
  stk : ∀ c ∈ s.stk, TurOk c
theorem bendF_ok {b : Trop} {c : Tur} (h : TurOk c) (hb : 0 ≤ b.1 ∧ b.1 ≤ 5) : TurOk (bendF b c) := by
  unfold bendF
  split
  · exact h
  · exact h.turn _ ((bend_chk ⟨b.1.toNat, by omega⟩ ⟨_, h.lt⟩).2.1)
theorem takeF_ok {b : Trop} {s s' : Sta} {m : Mod} (h : StaOk s) (hb : 0 ≤ b.1 ∧ b.1 ≤ 5) (ht : takeF b s m = some s') : StaOk s' := by
  unfold takeF at ht
  split at ht
  · split at ht
    · rename_i hv
      split at ht
      · cases ht
      · rename_i hd
        injection ht with ht
        subst ht
        refine ⟨bendF_ok ⟨h.cur.lo, checkFr_of (checkFr_ok h.cur.ck).1 hv, ?_, ?_⟩ hb, h.stk⟩
        · have := h.cur.d0
          show 0 ≤ s.cur.2 + 1
          omega
        · show s.cur.2 + 1 ≤ 1000000
          omega
    · cases ht
  split at ht
  · split at ht
    · rename_i hv
      injection ht with ht
      subst ht
      exact ⟨⟨h.cur.lo, checkFr_of (checkFr_ok h.cur.ck).1 hv, h.cur.d0, h.cur.d1⟩, h.stk⟩
    · cases ht
  split at ht
  · injection ht with ht; subst ht; exact ⟨h.cur.turn _ (rot_lt _ _ _ _), h.stk⟩
  split at ht
  · injection ht with ht; subst ht; exact ⟨h.cur.turn _ (rot_lt _ _ _ _), h.stk⟩
  split at ht
  · injection ht with ht; subst ht; exact ⟨h.cur.turn _ (rot_lt _ _ _ _), h.stk⟩
  split at ht
  · injection ht with ht; subst ht; exact ⟨h.cur.turn _ (rot_lt _ _ _ _), h.stk⟩
  split at ht
  · injection ht with ht; subst ht; exact ⟨h.cur.turn _ (rot_lt _ _ _ _), h.stk⟩
  split at ht
  · injection ht with ht; subst ht; exact ⟨h.cur.turn _ (rot_lt _ _ _ _), h.stk⟩
  split at ht
  · injection ht with ht
    subst ht
    refine ⟨h.cur, fun c hc => ?_⟩
    rcases List.mem_append.1 hc with hc | hc
    · exact h.stk c hc
    · rw [List.mem_singleton.1 hc]; exact h.cur
  split at ht
  · split at ht
    · rename_i c hc
      injection ht with ht
      subst ht
      exact ⟨h.stk c (List.mem_of_getLast? hc), fun d hd => h.stk d (List.dropLast_subset _ hd)⟩
    · cases ht
  · injection ht with ht; subst ht; exact ⟨h.cur, h.stk⟩
theorem runF_ok {b : Trop} (hb : 0 ≤ b.1 ∧ b.1 ≤ 5) : ∀ {ms : List Mod} {s s' : Sta}, StaOk s → runF b s ms = some s' → StaOk s'
  | [], s, s', h, hr => by injection hr with hr; subst hr; exact h
  | m :: ms, s, s', h, hr => by
    rw [runF] at hr
    cases ht : takeF b s m with
    | none => rw [ht] at hr; cases hr
    | some s1 => rw [ht] at hr; exact runF_ok hb (takeF_ok h hb ht) hr
end Go.Proofs.YtldccpmnboebmaaDoor

/-! Vd -/
namespace Go.Proofs.YtldccpmnboebmaaDoor
open Go.RowKit
set_option linter.unusedVariables false

def VecPost (v : V3) (w : World) (e : Ending) (w' : World) : Prop := e = .returned (.agg #[.int .i64 v.1, .int .i64 v.2.1, .int .i64 v.2.2]) ∧ RowKit.Below w.heap.size w w'
theorem new_at {w : World} {t : TypeId} {cs : Array Value} {g : Nat} (h : g = w.heap.size) : (w.alloc (.cells cs t)).heap[g]? = some (.cells cs t (0, 0)) := by subst h; exact Blk.new w t cs
theorem al1 {w : World} {o1 : Obj} : RowKit.Below w.heap.size w (w.alloc o1) := (RowKit.Below.refl _ _).alloc (Nat.le_refl _) _
theorem al2 {w : World} {o1 o2 : Obj} : RowKit.Below w.heap.size w ((w.alloc o1).alloc o2) := al1.alloc (by simp) _
theorem al3 {w : World} {o1 o2 o3 : Obj} : RowKit.Below w.heap.size w (((w.alloc o1).alloc o2).alloc o3) := al2.alloc (by simp; omega) _
set_option maxRecDepth 100000 in
set_option maxHeartbeats 1000000 in
theorem direction_calls (d : Fin 6) (w : World) : Calls Tryd.prog 42 #[.int .u8 (d.val : Int)] w (VecPost (dirV d.val) w) := by
  have hall : ∀ n : Nat, n < 6 → n = 0 ∨ n = 1 ∨ n = 2 ∨ n = 3 ∨ n = 4 ∨ n = 5 := by omega
  obtain ⟨n, hn⟩ := d
  rcases hall n hn with rfl | rfl | rfl | rfl | rfl | rfl
  all_goals
    go_enter Tryd.func42, Tryd.ntmps42
    go_wp2
    refine bodyPost_ret (results_cell_row rfl _ _ _ 24 _ (0, 0) _ rfl (new_at (by simp)) Tryd.underlying24 rfl (by kernel_rfl)) rfl ?_
    exact ⟨rfl, al1⟩
set_option maxRecDepth 100000 in
set_option maxHeartbeats 1000000 in
theorem refDirection_calls (d : Fin 6) (w : World) : Calls Tryd.prog 15 #[.int .i64 (d.val : Int)] w (VecPost (dirV d.val) w) := by
  have hall : ∀ n : Nat, n < 6 → n = 0 ∨ n = 1 ∨ n = 2 ∨ n = 3 ∨ n = 4 ∨ n = 5 := by omega
  obtain ⟨n, hn⟩ := d
  rcases hall n hn with rfl | rfl | rfl | rfl | rfl | rfl
  all_goals
    go_enter Tryd.func15, Tryd.ntmps15
    go_wp2
    refine bodyPost_ret (results_cell_row rfl _ _ _ 24 _ (0, 0) _ rfl (new_at (by simp)) Tryd.underlying24 rfl (by kernel_rfl)) rfl ?_
    exact ⟨rfl, al1⟩
/-- both numbers of which a sum or a difference is made are small -/
def smallV (b : Int) (v : V3) : Prop := (-b ≤ v.1 ∧ v.1 ≤ b) ∧ (-b ≤ v.2.1 ∧ v.2.1 ≤ b) ∧ (-b ≤ v.2.2 ∧ v.2.2 ≤ b)
theorem one3_prod {x y : Int} (hx : one3 x = true) (hy : one3 y = true) : -1 ≤ x * y ∧ x * y ≤ 1 := by
  unfold one3 at hx hy
  simp only [Bool.or_eq_true, beq_iff_eq] at hx hy
  rcases hx with (hx | hx) | hx <;> rcases hy with (hy | hy) | hy <;> subst hx hy <;> decide
theorem unitV_at {v : V3} (h : unitV v = true) : one3 v.1 = true ∧ one3 v.2.1 = true ∧ one3 v.2.2 = true := by
  unfold unitV at h
  simp only [Bool.and_eq_true] at h
  exact ⟨h.1.1, h.1.2, h.2⟩
set_option maxRecDepth 100000 in
set_option maxHeartbeats 1000000 in
theorem cross_calls (a b : V3) (w : World) (ha : unitV a = true) (hb : unitV b = true) : Calls Tryd.prog 43 #[.agg #[.int .i64 a.1, .int .i64 a.2.1, .int .i64 a.2.2], .agg #[.int .i64 b.1, .int .i64 b.2.1, .int .i64 b.2.2]] w (VecPost (crossV a b) w) := by
  obtain ⟨a1, a2, a3⟩ := a
  obtain ⟨b1, b2, b3⟩ := b
  obtain ⟨u1, u2, u3⟩ := unitV_at ha
  obtain ⟨v1, v2, v3⟩ := unitV_at hb
  simp only at u1 u2 u3 v1 v2 v3
  obtain ⟨p1, p2⟩ := one3_prod u2 v3
  obtain ⟨p3, p4⟩ := one3_prod u3 v2
  obtain ⟨p5, p6⟩ := one3_prod u3 v1
  obtain ⟨p7, p8⟩ := one3_prod u1 v3
  obtain ⟨p9, p10⟩ := one3_prod u1 v2
  obtain ⟨p11, p12⟩ := one3_prod u2 v1
  have Ha := Lib.hid ha; clear ha
  have Hb := Lib.hid hb; clear hb
  have U1 := Lib.hid u1; clear u1
  have U2 := Lib.hid u2; clear u2
  have U3 := Lib.hid u3; clear u3
  have V1 := Lib.hid v1; clear v1
  have V2 := Lib.hid v2; clear v2
  have V3 := Lib.hid v3; clear v3
  go_enter Tryd.func43, Tryd.ntmps43
  go_wp2
  refine bodyPost_ret (results_cell_row rfl _ _ _ 24 _ (0, 0) _ rfl (new_at (by simp)) Tryd.underlying24 rfl (by kernel_rfl)) rfl ?_
  exact ⟨rfl, al3⟩
/-- a number of a vector by an entry of a turn -/
theorem unit_mul {x v : Int} (h : one3 x = true) (hv : -1000000 ≤ v ∧ v ≤ 1000000) : -1000000 ≤ v * x ∧ v * x ≤ 1000000 := one3_mul h hv
set_option maxRecDepth 100000 in
set_option maxHeartbeats 2000000 in
theorem sum_calls (m : M3) (v : V3) (w : World) (hm : unitM m = true) (hv : smallV 1000000 v) :
    Calls Tryd.prog 49 #[.agg #[.int .i64 m.1.1, .int .i64 m.1.2.1, .int .i64 m.1.2.2, .int .i64 m.2.1.1, .int .i64 m.2.1.2.1, .int .i64 m.2.1.2.2, .int .i64 m.2.2.1, .int .i64 m.2.2.2.1, .int .i64 m.2.2.2.2], .agg #[.int .i64 v.1, .int .i64 v.2.1, .int .i64 v.2.2]] w (VecPost (sumV m v) w) := by
  obtain ⟨⟨a1, a2, a3⟩, ⟨b1, b2, b3⟩, ⟨c1, c2, c3⟩⟩ := m
  obtain ⟨v1, v2, v3⟩ := v
  obtain ⟨hv1, hv2, hv3⟩ := hv
  unfold unitM at hm
  simp only [Bool.and_eq_true] at hm
  obtain ⟨⟨ha, hb⟩, hc⟩ := hm
  obtain ⟨x1, x2, x3⟩ := unitV_at ha
  obtain ⟨y1, y2, y3⟩ := unitV_at hb
  obtain ⟨z1, z2, z3⟩ := unitV_at hc
  simp only at hv1 hv2 hv3 x1 x2 x3 y1 y2 y3 z1 z2 z3
  obtain ⟨p1, q1⟩ := unit_mul x1 hv1
  obtain ⟨p2, q2⟩ := unit_mul x2 hv1
  obtain ⟨p3, q3⟩ := unit_mul x3 hv1
  obtain ⟨p4, q4⟩ := unit_mul y1 hv2
  obtain ⟨p5, q5⟩ := unit_mul y2 hv2
  obtain ⟨p6, q6⟩ := unit_mul y3 hv2
  obtain ⟨p7, q7⟩ := unit_mul z1 hv3
  obtain ⟨p8, q8⟩ := unit_mul z2 hv3
  obtain ⟨p9, q9⟩ := unit_mul z3 hv3
  have Ha := Lib.hid ha; clear ha
  have Hb := Lib.hid hb; clear hb
  have Hc := Lib.hid hc; clear hc
  have X1 := Lib.hid x1; clear x1
  have X2 := Lib.hid x2; clear x2
  have X3 := Lib.hid x3; clear x3
  have Y1 := Lib.hid y1; clear y1
  have Y2 := Lib.hid y2; clear y2
  have Y3 := Lib.hid y3; clear y3
  have Z1 := Lib.hid z1; clear z1
  have Z2 := Lib.hid z2; clear z2
  have Z3 := Lib.hid z3; clear z3
  have Hv1 := Lib.hid hv1; clear hv1
  have Hv2 := Lib.hid hv2; clear hv2
  have Hv3 := Lib.hid hv3; clear hv3
  go_enter Tryd.func49, Tryd.ntmps49
  go_wp2
  refine bodyPost_ret (results_cell_row rfl _ _ _ 24 _ (0, 0) _ rfl (new_at (by simp)) Tryd.underlying24 rfl (by kernel_rfl)) rfl ?_
  exact ⟨rfl, al3⟩
end Go.Proofs.YtldccpmnboebmaaDoor

/-! Lx -/
namespace Go.Proofs.YtldccpmnboebmaaDoor
open Go.RowKit
set_option linter.unusedVariables false

def memT : Nat → List Nat → Bool
  | _, [] => false
  | a, b :: l => (Nat.beq a b) || memT a l
theorem memT_iff {a : Nat} : ∀ {l : List Nat}, memT a l = true ↔ a ∈ l
  | [] => by simp [memT]
  | b :: l => by
    have ih := memT_iff (a := a) (l := l)
    unfold memT
    rw [Bool.or_eq_true, ih, List.mem_cons, Nat.beq_eq]
def rowT (ops : Array Oper) (o : Oper) : Option Nat × List Nat × List Nat := (o.dst, o.looksAt ops, (o.after.toList.filter fun e => Region.binds .any e).map (·.on))
def apartT (x y : Option Nat × List Nat × List Nat) : Bool :=
  (match x.1 with
   | some d => !memT d y.2.1 && (match y.1 with | some f => !Nat.beq d f | none => true)
   | none => true) &&
  (match y.1 with
   | some d => !memT d x.2.1
   | none => true)
theorem apartT_apart {ops : Array Oper} {x y : Oper} (h : apartT (rowT ops x) (rowT ops y) = true) : x.apart ops y = true := by
  unfold apartT rowT at h
  unfold Oper.apart
  simp only [Bool.and_eq_true] at h ⊢
  obtain ⟨h1, h2⟩ := h
  refine ⟨?_, ?_⟩
  · cases hx : x.dst with
    | none => rfl
    | some d =>
      rw [hx] at h1
      simp only [Bool.and_eq_true] at h1 ⊢
      obtain ⟨h3, h4⟩ := h1
      refine ⟨?_, ?_⟩
      · cases hc : (y.looksAt ops).contains d
        · rfl
        · have hm : d ∈ y.looksAt ops := by simpa using hc
          have := memT_iff.2 hm
          rw [this] at h3
          exact h3
      · cases hy : y.dst with
        | none => rfl
        | some f =>
          rw [hy] at h4
          simp only [Bool.not_eq_true'] at h4
          have hne : d ≠ f := fun e => by
            subst e
            rw [Nat.beq_refl] at h4
            cases h4
          simp only [bne_iff_ne, ne_eq, Option.some.injEq]
          exact fun e => hne e.symm
  · cases hy : y.dst with
    | none => rfl
    | some d =>
      rw [hy] at h2
      simp only at h2
      cases hc : (x.looksAt ops).contains d
      · show (!(x.looksAt ops).contains d) = true
        rw [hc]; rfl
      · have hm : d ∈ x.looksAt ops := by simpa using hc
        have := memT_iff.2 hm
        rw [this] at h2
        cases h2
def pairT (k : Nat) (x : Option Nat × List Nat × List Nat) : List (Option Nat × List Nat × List Nat) → Bool
  | [] => true
  | y :: r => (memT k y.2.2 || apartT x y) && pairT k x r
def ltT (k : Nat) : List Nat → Bool
  | [] => true
  | a :: l => Nat.ble (a + 1) k && ltT k l
theorem ltT_iff {k : Nat} : ∀ {l : List Nat}, ltT k l = true → ∀ a ∈ l, a < k
  | [], _, a, h => by simp at h
  | b :: l, h, a, hm => by
    unfold ltT at h
    rw [Bool.and_eq_true] at h
    rcases List.mem_cons.1 hm with e | e
    · subst e; exact Nat.le_of_ble_eq_true h.1
    · exact ltT_iff h.2 a e
theorem pairT_iff {k : Nat} {x : Option Nat × List Nat × List Nat} : ∀ {l : List (Option Nat × List Nat × List Nat)}, pairT k x l = true → ∀ y ∈ l, (memT k y.2.2 || apartT x y) = true
  | [], _, y, h => by simp at h
  | z :: l, h, y, hm => by
    unfold pairT at h
    rw [Bool.and_eq_true] at h
    rcases List.mem_cons.1 hm with e | e
    · subst e; exact h.1
    · exact pairT_iff h.2 y e
def goodT : Nat → List (Option Nat × List Nat × List Nat) → Bool
  | _, [] => true
  | k, x :: r => ltT k x.2.2 && pairT k x r && goodT (k + 1) r
theorem lex_goodT {ops : Array Oper} : ∀ (l : List Oper) (k : Nat) (listed : Array Bool), (∀ j, l[j]? = ops[k + j]?) → k + l.length = ops.size → listed.size = ops.size → (∀ j, j < k → listed[j]? = some true) → (∀ j, k ≤ j → j < ops.size → listed[j]? = some false) →
    goodT k (l.map (rowT ops)) = true → Region.lexFrom .any ops l.length k listed = true
  | [], k, listed, hl, hk, hs, h1, h2, hg => by
    simp only [List.length_nil, Nat.add_zero] at hk
    simp only [List.length_nil, Region.lexFrom]
    rw [List.isEmpty_iff]
    refine List.eq_nil_iff_forall_not_mem.2 fun j hj => ?_
    have h3 := (mem_ready.1 hj).1
    by_cases hjk : j < k
    · have := h1 j hjk
      rw [Array.getD_eq_getD_getElem?, this] at h3
      cases h3
    · have : listed[j]? = none := by rw [Array.getElem?_eq_none_iff]; omega
      rw [Array.getD_eq_getD_getElem?, this] at h3
      cases h3
  | o :: l, k, listed, hl, hk, hs, h1, h2, hg => by
    simp only [List.length_cons] at hk
    have h0 : ops[k]? = some o := by simpa using (hl 0).symm
    have htail : ∀ j, l[j]? = ops[k + 1 + j]? := fun j => by
      have := hl (j + 1)
      rw [List.getElem?_cons_succ] at this
      rw [this]
      congr 1; omega
    rw [List.map_cons] at hg
    unfold goodT at hg
    simp only [Bool.and_eq_true] at hg
    obtain ⟨⟨g1, g2⟩, g3⟩ := hg
    simp only [List.length_cons, Region.lexFrom, Bool.and_eq_true]
    refine ⟨⟨?_, ?_⟩, ?_⟩
    · rw [List.contains_iff_mem, mem_ready]
      refine ⟨?_, o, h0, fun e he hb => ?_⟩
      · rw [Array.getD_eq_getD_getElem?, h2 k (Nat.le_refl _) (by omega)]; rfl
      · have hm : e.on ∈ (rowT ops o).2.2 := by
          unfold rowT
          exact List.mem_map.2 ⟨e, List.mem_filter.2 ⟨Array.mem_toList_iff.2 he, hb⟩, rfl⟩
        have := ltT_iff g1 e.on hm
        rw [Array.getD_eq_getD_getElem?, h1 _ this]; rfl
    · unfold Region.free
      rw [h0]
      simp only [List.all_eq_true, List.mem_range]
      intro j hj
      by_cases hjk : j < k
      · have h5 := h1 j hjk
        have h6 : listed.getD j true = true := by rw [Array.getD_eq_getD_getElem?, h5]; rfl
        simp [h6]
      · by_cases hje : j = k
        · simp [hje]
        · obtain ⟨oj, hoj⟩ : ∃ oj, ops[j]? = some oj := ⟨_, Array.getElem?_eq_getElem hj⟩
          have hm : oj ∈ l := by
            have := htail (j - (k + 1))
            rw [show k + 1 + (j - (k + 1)) = j from by omega, hoj] at this
            exact List.mem_of_getElem? this
          have h5 := pairT_iff g2 _ (List.mem_map_of_mem (f := rowT ops) hm)
          rw [hoj]
          simp only [Bool.or_eq_true]
          rcases Bool.or_eq_true _ _ ▸ h5 with h6 | h6
          · refine .inr (.inl ?_)
            have h7 := memT_iff.1 h6
            unfold rowT at h7
            obtain ⟨e, he, hek⟩ := List.mem_map.1 h7
            have h8 := List.mem_filter.1 he
            rw [Array.any_eq_true']
            exact ⟨e, by simpa using h8.1, by simp [h8.2, hek]⟩
          · exact .inr (.inr (apartT_apart h6))
    · refine lex_goodT l (k + 1) _ htail (by omega) (by simpa using hs) (fun j hj => ?_) (fun j hj hjs => ?_) g3
      · by_cases hjk : j = k
        · subst hjk
          rw [Array.getElem?_setIfInBounds_self]
          simp; omega
        · rw [Array.getElem?_setIfInBounds_ne (by omega)]
          exact h1 j (by omega)
      · rw [Array.getElem?_setIfInBounds_ne (by omega)]
        exact h2 j (by omega) hjs
theorem lexB_of_good {l : List Oper} (hn : Region.noSelect l.toArray = true) (h : goodT 0 (l.map (rowT l.toArray)) = true) : Region.lexB .any l.toArray = true := by
  unfold Region.lexB
  rw [Bool.and_eq_true]
  refine ⟨hn, ?_⟩
  have h1 := lex_goodT (ops := l.toArray) l 0 (Array.replicate l.toArray.size false) (fun j => by simp) (by simp) (by simp) (fun j hj => by omega) (fun j _ hj => by
    rw [Array.getElem?_replicate, if_pos hj]) h
  simpa using h1
section
variable {P : Program}
theorem wp_region_quiet_big {id : Nat} {Q : Exit → Act → World → Prop} {a : Act} {w : World} {l : List Oper} (hm : P.follows .mixedOrders = true) (hn : Region.noSelect l.toArray = true) (hB : goodT 0 (l.map (rowT l.toArray)) = true)
    (h : wpQuiet P l.toArray (fun w' => ∃ n, w' = w.drewN n) (fun a' => ∀ w', (∃ n, w' = w.drewN n) → Q .normal a' w') l a) : (Code.region id l.toArray true).wp P Q a w :=
  wp_region_quiet_lit hm (lexB_of_good hn hB) h
end
end Go.Proofs.YtldccpmnboebmaaDoor

/-! Ly -/
namespace Go.Proofs.YtldccpmnboebmaaDoor
open Go.RowKit Go.Sort
set_option linter.unusedVariables false

/-- the last operation, doing nothing -/
def nopT (s : Oper) : Oper := ⟨none, .move (.const undef), s.type, s.pos, s.after, none⟩
def onsT (s : Oper) : List Nat := (s.after.toList.filter fun e => Region.binds .any e).map (·.on)
def sinkT (s : Oper) : Nat → Bool
  | 0 => true
  | n + 1 => memT n (onsT s) && sinkT s n
theorem sinkT_iff {s : Oper} : ∀ {n : Nat}, sinkT s n = true → ∀ k, k < n → ∃ e ∈ s.after, Region.binds .any e = true ∧ e.on = k
  | 0, _, k, h => by omega
  | n + 1, h, k, hk => by
    unfold sinkT at h
    rw [Bool.and_eq_true] at h
    by_cases e : k = n
    · subst e
      have h1 := memT_iff.1 h.1
      unfold onsT at h1
      obtain ⟨e, he, hek⟩ := List.mem_map.1 h1
      have h2 := List.mem_filter.1 he
      exact ⟨e, Array.mem_toList_iff.1 h2.1, h2.2, hek⟩
    · exact sinkT_iff h.2 k (by omega)
theorem good_early {ops : Array Oper} : ∀ (l : List Oper) (k : Nat), goodT k (l.map (rowT ops)) = true → ∀ j o, l[j]? = some o → ∀ e ∈ o.after, Region.binds .any e = true → e.on < k + j
  | [], _, _, j, o, h, _, _, _ => by simp at h
  | q :: l, k, hg, j, o, h, e, he, hb => by
    rw [List.map_cons] at hg
    unfold goodT at hg
    simp only [Bool.and_eq_true] at hg
    obtain ⟨⟨g1, g2⟩, g3⟩ := hg
    cases j with
    | zero =>
      simp only [List.getElem?_cons_zero, Option.some.injEq] at h
      subst h
      have hm : e.on ∈ (rowT ops q).2.2 := by
        unfold rowT
        exact List.mem_map.2 ⟨e, List.mem_filter.2 ⟨Array.mem_toList_iff.2 he, hb⟩, rfl⟩
      have := ltT_iff g1 e.on hm
      omega
    | succ j =>
      simp only [List.getElem?_cons_succ] at h
      have := good_early l (k + 1) g3 j o h e he hb
      omega
section
variable {P : Program} {C : World → Prop} {l : List Oper} {s : Oper}
theorem ends_at {i : Nat} (h : i ≠ l.length) : (l ++ [s]).toArray[i]? = (l ++ [nopT s]).toArray[i]? := by
  simp only [List.getElem?_toArray]
  by_cases hi : i < l.length
  · rw [List.getElem?_append_left hi, List.getElem?_append_left hi]
  · rw [List.getElem?_eq_none (by simp; omega), List.getElem?_eq_none (by simp; omega)]
theorem ends_last : (l ++ [s]).toArray[l.length]? = some s := by simp
theorem ready_same (listed : Array Bool) : Region.ready .any (l ++ [s]).toArray listed = Region.ready .any (l ++ [nopT s]).toArray listed := by
  unfold Region.ready
  have hs : (l ++ [s]).toArray.size = (l ++ [nopT s]).toArray.size := by simp
  rw [hs]
  refine List.filter_congr fun i _ => ?_
  by_cases hi : i = l.length
  · subst hi
    rw [ends_last, ends_last]
    rfl
  · rw [ends_at hi]
theorem yielded_same (hd : s.dst = none) (tmps : Array Value) : yielded (l ++ [s]).toArray tmps = yielded (l ++ [nopT s]).toArray tmps := by
  funext i
  unfold yielded
  by_cases hi : i = l.length
  · subst hi
    rw [ends_last, ends_last]
    simp [nopT, hd]
  · rw [ends_at hi]
/-- while the last one is not listed, something is ready -/
theorem ready_some {ops : Array Oper} {listed : Array Bool} {n : Nat} (hn : n < ops.size) (hs : listed.size = ops.size) (he : ∀ j o, ops[j]? = some o → ∀ e ∈ o.after, Region.binds .any e = true → e.on < j) (h : listed.getD n true = false) : Region.ready .any ops listed ≠ [] := by
  have key : ∀ m, (∃ j, j ≤ m ∧ j < ops.size ∧ listed.getD j true = false) → Region.ready .any ops listed ≠ [] := by
    intro m
    induction m with
    | zero =>
      rintro ⟨j, hj, hjs, hl⟩ hr
      obtain rfl : j = 0 := by omega
      obtain ⟨o, ho⟩ : ∃ o, ops[0]? = some o := ⟨_, Array.getElem?_eq_getElem hjs⟩
      have : (0 : Nat) ∈ Region.ready .any ops listed := mem_ready.2 ⟨hl, o, ho, fun e he' hb => by have := he 0 o ho e he' hb; omega⟩
      rw [hr] at this
      cases this
    | succ m ih =>
      rintro ⟨j, hj, hjs, hl⟩
      by_cases hex : ∃ k, k ≤ m ∧ k < ops.size ∧ listed.getD k true = false
      · exact ih hex
      · intro hr
        obtain ⟨o, ho⟩ : ∃ o, ops[j]? = some o := ⟨_, Array.getElem?_eq_getElem hjs⟩
        have : j ∈ Region.ready .any ops listed := mem_ready.2 ⟨hl, o, ho, fun e he' hb => by
          have h1 := he j o ho e he' hb
          cases h2 : listed.getD e.on true
          · exact absurd ⟨e.on, by omega, by omega, h2⟩ hex
          · have h3 : e.on < listed.size := by omega
            rw [Array.getD_eq_getD_getElem?, Array.getElem?_eq_getElem h3] at h2 ⊢
            exact h2⟩
        rw [hr] at this
        cases this
  exact key n ⟨n, Nat.le_refl _, hn, h⟩
theorem wpAny_store {Q' : Exit → Act → World → Prop} (hd : s.dst = none) (hsink : sinkT s l.length = true)
    (he : ∀ j o, (l ++ [nopT s]).toArray[j]? = some o → ∀ e ∈ o.after, Region.binds .any e = true → e.on < j) :
    ∀ (fuel : Nat) (listed : Array Bool) (a : Act) (w : World), C w → listed.size = l.length + 1 → listed.getD l.length true = false →
      wpAnyQ P .any (l ++ [nopT s]).toArray C (fun a => ∀ w, C w → wpOp P (l ++ [s]).toArray Q' l.length (Q' .normal) a w) fuel listed a → wpAny P .any (l ++ [s]).toArray Q' fuel listed a w
  | 0, listed, a, w, hC, hs, hl, h => absurd h.1 (ready_some (n := l.length) (by simp) (by simpa using hs) he hl)
  | fuel + 1, listed, a, w, hC, hs, hl, h => by
    have hne := ready_some (n := l.length) (by simp) (by simpa using hs) he hl
    refine ⟨fun h0 => absurd (by rw [← ready_same]; exact h0) hne, fun i hi => ?_⟩
    rw [ready_same] at hi
    have hq := h.2 i hi
    by_cases hin : i = l.length
    · subst hin
      -- all others are listed
      have hall : ∀ k, k < l.length → listed.getD k false = true := fun k hk => by
        obtain ⟨e, he', hb, hek⟩ := sinkT_iff hsink k hk
        obtain ⟨_, o, ho, hall⟩ := mem_ready.1 hi
        rw [ends_last] at ho
        injection ho with ho
        subst ho
        have := hall e he' hb
        rw [hek] at this
        exact this
      have hempty : Region.ready .any (l ++ [nopT s]).toArray (listed.setIfInBounds l.length true) = [] := by
        refine List.eq_nil_iff_forall_not_mem.2 fun j hj => ?_
        obtain ⟨h1, o, ho, _⟩ := mem_ready.1 hj
        have hjs := (Array.getElem?_eq_some_iff.1 ho).1
        simp at hjs
        rw [Array.getD_eq_getD_getElem?] at h1
        by_cases hje : j = l.length
        · subst hje
          rw [Array.getElem?_setIfInBounds_self] at h1
          have : l.length < listed.size := by omega
          simp [this] at h1
        · rw [Array.getElem?_setIfInBounds_ne (by omega)] at h1
          have h2 := hall j (by omega)
          rw [Array.getD_eq_getD_getElem?] at h2
          have h3 : j < listed.size := by omega
          rw [Array.getElem?_eq_getElem h3] at h1 h2
          simp only [Option.getD_some] at h1 h2
          rw [h2] at h1
          cases h1
      have hQ : ∀ w, C w → wpOp P (l ++ [s]).toArray Q' l.length (Q' .normal) a w := by
        unfold qOp at hq
        rw [ends_last] at hq
        simp only at hq
        rw [if_pos (by simp [Region.wanted, nopT])] at hq
        obtain ⟨v, _, hK⟩ := hq
        have hK' : wpAnyQ P .any (l ++ [nopT s]).toArray C (fun a => ∀ w, C w → wpOp P (l ++ [s]).toArray Q' l.length (Q' .normal) a w) fuel (listed.setIfInBounds l.length true) a := hK
        cases fuel with
        | zero => exact hK'.2
        | succ fuel => exact hK'.1 hempty
      refine wpOp_mono (fun a' w' h' => ?_) (hQ w hC)
      cases fuel with
      | zero => exact ⟨by rw [ready_same]; exact hempty, h'⟩
      | succ fuel => exact ⟨fun _ => h', fun j hj => by rw [ready_same, hempty] at hj; cases hj⟩
    · have hq2 : qOp P (l ++ [s]).toArray C i (wpAnyQ P .any (l ++ [nopT s]).toArray C (fun a => ∀ w, C w → wpOp P (l ++ [s]).toArray Q' l.length (Q' .normal) a w) fuel (listed.setIfInBounds i true)) a := by
        unfold qOp at hq ⊢
        rw [ends_at hin, yielded_same hd]
        exact hq
      refine wpOp_of_qOp hC (fun a' w' hw' hk => ?_) hq2
      refine wpAny_store hd hsink he fuel _ a' w' hw' (by simpa using hs) ?_ hk
      rw [Array.getD_eq_getD_getElem?, Array.getElem?_setIfInBounds_ne hin, ← Array.getD_eq_getD_getElem?]
      exact hl
end
/-- the walk's ending: the last operation, in every world of the class -/
theorem wp_region_store {P : Program} {id : Nat} {Q : Exit → Act → World → Prop} {a : Act} {w : World} {l : List Oper} (n : Nat) (hm : P.follows .mixedOrders = true) {s : Oper} (hl : l.drop n = [s]) (hd : s.dst = none) (hgd : s.guard = none)
    (hn : Region.noSelect (l.take n ++ [nopT s]).toArray = true) (hB : goodT 0 ((l.take n ++ [nopT s]).map (rowT (l.take n ++ [nopT s]).toArray)) = true) (hsink : sinkT s (l.take n).length = true)
    (h : wpQuiet P (l.take n ++ [nopT s]).toArray (fun w' => ∃ p : Regrown, w' = grow (redrawn w p.d) p.os) (fun a' => ∀ w', (∃ p : Regrown, w' = grow (redrawn w p.d) p.os) → s.wp P a' w' (Q .normal) Q) (l.take n) a) : (Code.region id l.toArray true).wp P Q a w := by
  have hsplit : l = l.take n ++ [s] := by rw [← hl, List.take_append_drop]
  obtain ⟨m, hm'⟩ : ∃ m, l.take n = m := ⟨_, rfl⟩
  rw [hm'] at hn hB hsink h hsplit
  rw [hsplit]
  have hlex := lexB_of_good hn hB
  unfold Region.lexB at hlex
  rw [Bool.and_eq_true] at hlex
  refine wp_region_any hm ?_
  have he : ∀ j o, (m ++ [nopT s]).toArray[j]? = some o → ∀ e ∈ o.after, Region.binds .any e = true → e.on < j := fun j o ho e he hb => by
    have := good_early (m ++ [nopT s]) 0 hB j o (by simpa using ho) e he hb
    omega
  have hq : wpQuiet P (m ++ [nopT s]).toArray (fun w' => ∃ p : Regrown, w' = grow (redrawn w p.d) p.os) (fun a' => ∀ w', (∃ p : Regrown, w' = grow (redrawn w p.d) p.os) → wpOp P (m ++ [s]).toArray Q m.length (Q .normal) a' w') (m ++ [nopT s]) a := by
    have step : ∀ (l1 : List Oper) (a1 : Act), wpQuiet P (m ++ [nopT s]).toArray (fun w' => ∃ p : Regrown, w' = grow (redrawn w p.d) p.os) (fun a' => ∀ w', (∃ p : Regrown, w' = grow (redrawn w p.d) p.os) → s.wp P a' w' (Q .normal) Q) l1 a1 →
        wpQuiet P (m ++ [nopT s]).toArray (fun w' => ∃ p : Regrown, w' = grow (redrawn w p.d) p.os) (fun a' => ∀ w', (∃ p : Regrown, w' = grow (redrawn w p.d) p.os) → wpOp P (m ++ [s]).toArray Q m.length (Q .normal) a' w') (l1 ++ [nopT s]) a1 := by
      intro l1
      induction l1 with
      | nil =>
        intro a1 h1
        show (if Region.wanted (nopT s) _ = true then _ else _)
        rw [if_pos (by simp [Region.wanted, nopT])]
        refine ⟨undef, fun w' _ => ?_, ?_⟩
        · unfold Oper.quietAt nopT
          simp [execOp, Act.eval, Oper.quietUpon]
        · intro w' hw'
          unfold wpOp
          rw [ends_last]
          simp only
          rw [if_pos (by simp [Region.wanted, hgd])]
          exact .inl (h1 w' hw')
      | cons o r ih =>
        intro a1 h1
        show (if Region.wanted o _ = true then _ else _)
        change (if Region.wanted o _ = true then _ else _) at h1
        split at h1
        · rename_i hw
          rw [if_pos hw]
          exact Oper.quiet_mono (fun a2 h2 => ih a2 h2) h1
        · rename_i hw
          rw [if_neg hw]
          exact ih _ h1
    exact step m a h
  have H := wpAnyQ_lex (P := P) (C := fun w' => ∃ p : Regrown, w' = grow (redrawn w p.d) p.os) (md := .any) hlex.1 (m ++ [nopT s]) 0 (Array.replicate (m ++ [nopT s]).toArray.size false) a (by simp) (by simpa using hlex.2) hq
  have := wpAny_store (P := P) (C := fun w' => ∃ p : Regrown, w' = grow (redrawn w p.d) p.os) (Q' := Q) hd hsink he (m ++ [nopT s]).length (Array.replicate (m ++ [nopT s]).toArray.size false) a { w with drawn := w.drawn + 1 } ⟨⟨w.drawn + 1, #[]⟩, by rw [grow_empty]; rfl⟩ (by simp) (by simp) H
  simpa using this
end Go.Proofs.YtldccpmnboebmaaDoor

/-! Ve -/
namespace Go.Proofs.YtldccpmnboebmaaDoor
open Go.RowKit Go.Sort
set_option linter.unusedVariables false

section
variable {P : Program}
/-- a struct's or an array's store to a known block -/
theorem wp_storeG {o : Oper} {a : Act} {K : Act → World → Prop} {Q : Exit → Act → World → Prop} {w : World} {g : Nat} {t : TypeId} (ty : TypeId) (p x : Operand) (old cells : Array Value) (ho : o.op = .store ty p x) (hp : a.eval p = .pointer (some ⟨g, 0, none⟩)) (hx : a.eval x = .agg cells)
    (hg : Blk w g t old) (hi : (P.info? ty).map (·.size) = some cells.size) (hs : old.size = cells.size) (h1 : cells.all (·.oneCell') = true) (hd : o.dst = none) (h : K a (w.setRow g cells)) : o.wp P a w K Q := by
  have hr := run_storeVar_row (P := P) w g t ty old cells hg hi hs h1
  unfold Oper.wp
  obtain ⟨dst, op, tt, ps, af, gd⟩ := o
  simp only at ho hd
  subst ho hd
  simp [execOp, Instr.storeAt, Instr.sureAddr, hp, hx, hr, Oper.upon]
  exact h
theorem wpList_storeG {ops : Array Oper} {rest : List Oper} {o : Oper} {a : Act} {Q : Exit → Act → World → Prop} {w : World} {g : Nat} {t : TypeId} (ty : TypeId) (p x : Operand) (old cells : Array Value) (hgd : o.guard = none) (ho : o.op = .store ty p x) (hp : a.eval p = .pointer (some ⟨g, 0, none⟩)) (hx : a.eval x = .agg cells)
    (hg : Blk w g t old) (hi : (P.info? ty).map (·.size) = some cells.size) (hs : old.size = cells.size) (h1 : cells.all (·.oneCell') = true) (hd : o.dst = none) (h : wpList P ops Q rest a (w.setRow g cells)) : wpList P ops Q (o :: rest) a w := by
  unfold wpList
  rw [if_pos (by simp [Region.wanted, hgd])]
  exact .inl (wp_storeG ty p x old cells ho hp hx hg hi hs h1 hd h)
end
theorem blk_row {w : World} {g : Nat} {t : TypeId} {old cs : Array Value} (h : Blk w g t old) : Blk (w.setRow g cs) g t cs := setRow_heap w g old cs t (0, 0) h
theorem row_below {B g : Nat} {w0 w : World} (h : RowKit.Below B w0 w) (hg : B ≤ g) (cs : Array Value) : RowKit.Below B w0 (w.setRow g cs) :=
  ⟨h.os, h.tape, h.output, by simpa using h.size, fun k hk => (setRow_other w g k cs (by omega)).trans (h.block k hk)⟩

def MatPost (m : M3) (w : World) (e : Ending) (w' : World) : Prop :=
  e = .returned (.agg #[.int .i64 m.1.1, .int .i64 m.1.2.1, .int .i64 m.1.2.2, .int .i64 m.2.1.1, .int .i64 m.2.1.2.1, .int .i64 m.2.1.2.2, .int .i64 m.2.2.1, .int .i64 m.2.2.2.1, .int .i64 m.2.2.2.2]) ∧ RowKit.Below w.heap.size w w'
theorem dirV_unit : ∀ d : Fin 6, unitV (dirV d.val) = true := by decide +kernel
set_option maxRecDepth 100000 in
set_option maxHeartbeats 4000000 in
theorem axes_calls (t : Nat) (ht : t < 24) (w : World) : Calls Tryd.prog 28 #[.int .u8 (t : Int)] w (MatPost (axT t) w) := by
  have e1 : (t : Int) / 4 = ((t / 4 : Nat) : Int) := by omega
  have e2 : (t : Int) % 4 = ((t % 4 : Nat) : Int) := by omega
  obtain ⟨q, hq⟩ : ∃ q, t / 4 = q := ⟨_, rfl⟩
  obtain ⟨r, hr⟩ : ∃ r, t % 4 = r := ⟨_, rfl⟩
  rw [hq] at e1
  rw [hr] at e2
  have hq6 : q < 6 := by omega
  have hr4 : r < 4 := by omega
  have e3 : (q : Int) / 2 = ((q / 2 : Nat) : Int) := by omega
  obtain ⟨p, hp⟩ : ∃ p, q / 2 = p := ⟨_, rfl⟩
  rw [hp] at e3
  have hp3 : p ≤ 2 := by omega
  by_cases hb : p * 2 ≤ r
  · have hs : secN t = r + 2 := by unfold secN; rw [hq, hr, hp, if_pos hb]
    have hb' : (p : Int) * 2 ≤ (r : Int) := by omega
    have hax : axT t = (dirV q, dirV (r + 2), crossV (dirV q) (dirV (r + 2))) := by unfold axT; rw [hq, hs]
    have u1 := dirV_unit ⟨q, hq6⟩
    have u2 := dirV_unit ⟨r + 2, by omega⟩
    simp only at u1 u2
    have c1 := direction_calls ⟨q, hq6⟩
    have c2 := direction_calls ⟨r + 2, by omega⟩
    have hcast : ((r + 2 : Nat) : Int) = (r : Int) + 2 := by omega
    simp only [hcast] at c1 c2
    rw [hax]
    obtain ⟨v1, hv1⟩ : ∃ v, dirV q = v := ⟨_, rfl⟩
    obtain ⟨v2, hv2⟩ : ∃ v, dirV (r + 2) = v := ⟨_, rfl⟩
    rw [hv1] at u1 c1 ⊢
    rw [hv2] at u2 c2 ⊢
    have U1 := Lib.hid u1; clear u1
    have U2 := Lib.hid u2; clear u2
    have C1 := Lib.hid c1; clear c1
    have C2 := Lib.hid c2; clear c2
    have Hv1 := Lib.hid hv1; clear hv1
    have Hv2 := Lib.hid hv2; clear hv2
    have Hax := Lib.hid hax; clear hax
    have Hs := Lib.hid hs; clear hs
    have Hq := Lib.hid hq; clear hq
    have Hr := Lib.hid hr; clear hr
    have Hp := Lib.hid hp; clear hp
    clear hb
    go_enter Tryd.func28, Tryd.ntmps28
    go_wp2_with fail
    refine (C1.out _).mono ?_
    rintro e w1 ⟨rfl, b1⟩
    have h0 := Blk.new w 47 #[.int .i64 0, .int .i64 0, .int .i64 0, .int .i64 0, .int .i64 0, .int .i64 0, .int .i64 0, .int .i64 0, .int .i64 0]
    have h1 := h0.same (b1.block _ (by simp))
    have t1 := al1.trans (b1.mono al1.size)
    have g1 : w.heap.size < w1.heap.size := by have := b1.size; simp at this; omega
    have H1 := Lib.hid h1; clear h1
    have T1 := Lib.hid t1; clear t1
    clear b1 h0
    go_wp2_with fail
    refine (C2.out _).mono ?_
    rintro e w2 ⟨rfl, b2⟩
    have h2 := H1.out.same (b2.block _ g1)
    have t2 := T1.out.trans (b2.mono T1.out.size)
    have g2 := b2.size
    have H2 := Lib.hid h2; clear h2
    have T2 := Lib.hid t2; clear t2
    clear b2
    go_upto_region 6 with fail
    obtain ⟨wS, hwS⟩ : ∃ W, W = ((w2.alloc (.cells #[.int .i64 v1.1, .int .i64 v1.2.1, .int .i64 v1.2.2] 24)).alloc (.cells #[.int .i64 v2.1, .int .i64 v2.2.1, .int .i64 v2.2.2] 24)) := ⟨_, rfl⟩
    have kS : Blk wS w.heap.size 47 #[.int .i64 0, .int .i64 0, .int .i64 0, .int .i64 0, .int .i64 0, .int .i64 0, .int .i64 0, .int .i64 0, .int .i64 0] := by rw [hwS]; exact (H2.out.alloc _).alloc _
    have k1 : Blk wS w2.heap.size 24 #[.int .i64 v1.1, .int .i64 v1.2.1, .int .i64 v1.2.2] := by rw [hwS]; exact (Blk.new w2 _ _).alloc _
    have k2 : Blk wS (w2.heap.size + 1) 24 #[.int .i64 v2.1, .int .i64 v2.2.1, .int .i64 v2.2.2] := by
      rw [hwS]
      have := Blk.new (w2.alloc (.cells #[.int .i64 v1.1, .int .i64 v1.2.1, .int .i64 v1.2.2] 24)) 24 #[.int .i64 v2.1, .int .i64 v2.2.1, .int .i64 v2.2.2]
      simpa using this
    have tS : RowKit.Below w.heap.size w wS := by rw [hwS]; exact T2.out.trans (al2.mono T2.out.size)
    have zS : wS.heap.size = w2.heap.size + 2 := by rw [hwS]; simp
    rw [← hwS]
    have a0 := k1.cell 0
    have a1 := k1.cell 1
    have a2 := k1.cell 2
    have a3 := k2.cell 0
    have a4 := k2.cell 1
    have a5 := k2.cell 2
    have c0 := cell_regrown a0
    have c1' := cell_regrown a1
    have c2' := cell_regrown a2
    have c3 := cell_regrown a3
    have c4 := cell_regrown a4
    have c5 := cell_regrown a5
    clear a0 a1 a2 a3 a4 a5
    obtain ⟨cv, hcv⟩ : ∃ cv, crossV v1 v2 = cv := ⟨_, rfl⟩
    have hc : ∀ q os, Calls Tryd.prog 43 #[.agg #[.int .i64 v1.1, .int .i64 v1.2.1, .int .i64 v1.2.2], .agg #[.int .i64 v2.1, .int .i64 v2.2.1, .int .i64 v2.2.2]] (grow (redrawn wS q) os) fun e w'' => e = .returned (.agg #[.int .i64 cv.1, .int .i64 cv.2.1, .int .i64 cv.2.2]) ∧ ∃ p : Regrown, w'' = grow (redrawn wS p.d) p.os := fun q os => by rw [← hcv]; exact Calls.regrown_of (cross_calls v1 v2 _ U1.out U2.out)
    rw [hcv]
    have Hc := Lib.hid hc; clear hc
    have TS := Lib.hid tS; clear tS
    have Hcv := Lib.hid hcv; clear hcv
    have KS := Lib.hid kS; clear kS
    clear k1 k2 hwS
    refine wp_region_store 6 (by kernel_rfl) rfl rfl rfl (by kernel_rfl) (by kernel_rfl) (by kernel_rfl) ?_
    simp only [List.take_succ_cons, List.take_zero, List.cons_append, List.nil_append, nopT]
    iterate 6 (go_big_quiet_step (exact (Hc.out _ _).mono fun e w'' h => h))
    refine wpQuiet_nil ?_
    rintro w' ⟨⟨dq, osq⟩, rfl⟩
    have hbr := below_regrown wS dq osq
    generalize grow (redrawn wS dq) osq = w5 at hbr ⊢
    have k5 := KS.out.same (hbr.block _ (by omega))
    refine wp_storeG 47 (.tmp 2) (.tmp 27) _ #[.int .i64 v1.1, .int .i64 v1.2.1, .int .i64 v1.2.2, .int .i64 v2.1, .int .i64 v2.2.1, .int .i64 v2.2.2, .int .i64 cv.1, .int .i64 cv.2.1, .int .i64 cv.2.2] rfl rfl rfl k5 (by kernel_rfl) rfl (by simp [Value.oneCell']) rfl ?_
    have hfin := blk_row (cs := #[.int .i64 v1.1, .int .i64 v1.2.1, .int .i64 v1.2.2, .int .i64 v2.1, .int .i64 v2.2.1, .int .i64 v2.2.2, .int .i64 cv.1, .int .i64 cv.2.1, .int .i64 cv.2.2]) k5
    have hbel := row_below (g := w.heap.size) (TS.out.trans (hbr.mono TS.out.size)) (Nat.le_refl _) #[.int .i64 v1.1, .int .i64 v1.2.1, .int .i64 v1.2.2, .int .i64 v2.1, .int .i64 v2.2.1, .int .i64 v2.2.2, .int .i64 cv.1, .int .i64 cv.2.1, .int .i64 cv.2.2]
    go_wp2
    refine bodyPost_ret (results_cell_row rfl _ _ w.heap.size 47 _ (0, 0) _ rfl hfin Tryd.underlying47 rfl (by kernel_rfl)) rfl ?_
    exact ⟨by rw [Hcv.out], hbel⟩
  · have hs : secN t = r := by unfold secN; rw [hq, hr, hp, if_neg hb]
    have hb' : ¬ (p : Int) * 2 ≤ (r : Int) := by omega
    have hax : axT t = (dirV q, dirV r, crossV (dirV q) (dirV r)) := by unfold axT; rw [hq, hs]
    have u1 := dirV_unit ⟨q, hq6⟩
    have u2 := dirV_unit ⟨r, by omega⟩
    simp only at u1 u2
    have c1 := direction_calls ⟨q, hq6⟩
    have c2 := direction_calls ⟨r, by omega⟩
    simp only at c1 c2
    rw [hax]
    obtain ⟨v1, hv1⟩ : ∃ v, dirV q = v := ⟨_, rfl⟩
    obtain ⟨v2, hv2⟩ : ∃ v, dirV r = v := ⟨_, rfl⟩
    rw [hv1] at u1 c1 ⊢
    rw [hv2] at u2 c2 ⊢
    have U1 := Lib.hid u1; clear u1
    have U2 := Lib.hid u2; clear u2
    have C1 := Lib.hid c1; clear c1
    have C2 := Lib.hid c2; clear c2
    have Hv1 := Lib.hid hv1; clear hv1
    have Hv2 := Lib.hid hv2; clear hv2
    have Hax := Lib.hid hax; clear hax
    have Hs := Lib.hid hs; clear hs
    have Hq := Lib.hid hq; clear hq
    have Hr := Lib.hid hr; clear hr
    have Hp := Lib.hid hp; clear hp
    clear hb
    go_enter Tryd.func28, Tryd.ntmps28
    go_wp2_with fail
    refine (C1.out _).mono ?_
    rintro e w1 ⟨rfl, b1⟩
    have h0 := Blk.new w 47 #[.int .i64 0, .int .i64 0, .int .i64 0, .int .i64 0, .int .i64 0, .int .i64 0, .int .i64 0, .int .i64 0, .int .i64 0]
    have h1 := h0.same (b1.block _ (by simp))
    have t1 := al1.trans (b1.mono al1.size)
    have g1 : w.heap.size < w1.heap.size := by have := b1.size; simp at this; omega
    have H1 := Lib.hid h1; clear h1
    have T1 := Lib.hid t1; clear t1
    clear b1 h0
    go_wp2_with fail
    refine (C2.out _).mono ?_
    rintro e w2 ⟨rfl, b2⟩
    have h2 := H1.out.same (b2.block _ g1)
    have t2 := T1.out.trans (b2.mono T1.out.size)
    have g2 := b2.size
    have H2 := Lib.hid h2; clear h2
    have T2 := Lib.hid t2; clear t2
    clear b2
    go_upto_region 6 with fail
    obtain ⟨wS, hwS⟩ : ∃ W, W = ((w2.alloc (.cells #[.int .i64 v1.1, .int .i64 v1.2.1, .int .i64 v1.2.2] 24)).alloc (.cells #[.int .i64 v2.1, .int .i64 v2.2.1, .int .i64 v2.2.2] 24)) := ⟨_, rfl⟩
    have kS : Blk wS w.heap.size 47 #[.int .i64 0, .int .i64 0, .int .i64 0, .int .i64 0, .int .i64 0, .int .i64 0, .int .i64 0, .int .i64 0, .int .i64 0] := by rw [hwS]; exact (H2.out.alloc _).alloc _
    have k1 : Blk wS w2.heap.size 24 #[.int .i64 v1.1, .int .i64 v1.2.1, .int .i64 v1.2.2] := by rw [hwS]; exact (Blk.new w2 _ _).alloc _
    have k2 : Blk wS (w2.heap.size + 1) 24 #[.int .i64 v2.1, .int .i64 v2.2.1, .int .i64 v2.2.2] := by
      rw [hwS]
      have := Blk.new (w2.alloc (.cells #[.int .i64 v1.1, .int .i64 v1.2.1, .int .i64 v1.2.2] 24)) 24 #[.int .i64 v2.1, .int .i64 v2.2.1, .int .i64 v2.2.2]
      simpa using this
    have tS : RowKit.Below w.heap.size w wS := by rw [hwS]; exact T2.out.trans (al2.mono T2.out.size)
    have zS : wS.heap.size = w2.heap.size + 2 := by rw [hwS]; simp
    rw [← hwS]
    have a0 := k1.cell 0
    have a1 := k1.cell 1
    have a2 := k1.cell 2
    have a3 := k2.cell 0
    have a4 := k2.cell 1
    have a5 := k2.cell 2
    have c0 := cell_regrown a0
    have c1' := cell_regrown a1
    have c2' := cell_regrown a2
    have c3 := cell_regrown a3
    have c4 := cell_regrown a4
    have c5 := cell_regrown a5
    clear a0 a1 a2 a3 a4 a5
    obtain ⟨cv, hcv⟩ : ∃ cv, crossV v1 v2 = cv := ⟨_, rfl⟩
    have hc : ∀ q os, Calls Tryd.prog 43 #[.agg #[.int .i64 v1.1, .int .i64 v1.2.1, .int .i64 v1.2.2], .agg #[.int .i64 v2.1, .int .i64 v2.2.1, .int .i64 v2.2.2]] (grow (redrawn wS q) os) fun e w'' => e = .returned (.agg #[.int .i64 cv.1, .int .i64 cv.2.1, .int .i64 cv.2.2]) ∧ ∃ p : Regrown, w'' = grow (redrawn wS p.d) p.os := fun q os => by rw [← hcv]; exact Calls.regrown_of (cross_calls v1 v2 _ U1.out U2.out)
    rw [hcv]
    have Hc := Lib.hid hc; clear hc
    have TS := Lib.hid tS; clear tS
    have Hcv := Lib.hid hcv; clear hcv
    have KS := Lib.hid kS; clear kS
    clear k1 k2 hwS
    refine wp_region_store 6 (by kernel_rfl) rfl rfl rfl (by kernel_rfl) (by kernel_rfl) (by kernel_rfl) ?_
    simp only [List.take_succ_cons, List.take_zero, List.cons_append, List.nil_append, nopT]
    iterate 6 (go_big_quiet_step (exact (Hc.out _ _).mono fun e w'' h => h))
    refine wpQuiet_nil ?_
    rintro w' ⟨⟨dq, osq⟩, rfl⟩
    have hbr := below_regrown wS dq osq
    generalize grow (redrawn wS dq) osq = w5 at hbr ⊢
    have k5 := KS.out.same (hbr.block _ (by omega))
    refine wp_storeG 47 (.tmp 2) (.tmp 27) _ #[.int .i64 v1.1, .int .i64 v1.2.1, .int .i64 v1.2.2, .int .i64 v2.1, .int .i64 v2.2.1, .int .i64 v2.2.2, .int .i64 cv.1, .int .i64 cv.2.1, .int .i64 cv.2.2] rfl rfl rfl k5 (by kernel_rfl) rfl (by simp [Value.oneCell']) rfl ?_
    have hfin := blk_row (cs := #[.int .i64 v1.1, .int .i64 v1.2.1, .int .i64 v1.2.2, .int .i64 v2.1, .int .i64 v2.2.1, .int .i64 v2.2.2, .int .i64 cv.1, .int .i64 cv.2.1, .int .i64 cv.2.2]) k5
    have hbel := row_below (g := w.heap.size) (TS.out.trans (hbr.mono TS.out.size)) (Nat.le_refl _) #[.int .i64 v1.1, .int .i64 v1.2.1, .int .i64 v1.2.2, .int .i64 v2.1, .int .i64 v2.2.1, .int .i64 v2.2.2, .int .i64 cv.1, .int .i64 cv.2.1, .int .i64 cv.2.2]
    go_wp2
    refine bodyPost_ret (results_cell_row rfl _ _ w.heap.size 47 _ (0, 0) _ rfl hfin Tryd.underlying47 rfl (by kernel_rfl)) rfl ?_
    exact ⟨by rw [Hcv.out], hbel⟩
end Go.Proofs.YtldccpmnboebmaaDoor

/-! Op -/
namespace Go.Proofs.YtldccpmnboebmaaDoor
open Go.RowKit

theorem opens_mod' : Opens Tryd.prog 44 pMod :=
  opens_mod Tryd.underlying44 (by kernel_rfl) ⟨rfl, by kernel_rfl⟩ ⟨rfl, by kernel_rfl⟩ (opens_int Tryd.underlying5) opens_ints
theorem opens_word : Opens Tryd.prog 22 (pSl pMod) := opens_slice Tryd.underlying22 (by kernel_rfl) (by decide) opens_mod'
/-- an argument that is a module -/
theorem arg_mod {F : Nat → Prop} {w : World} {cs : Array Value} {m : Mod} (h : pMod.R F w (Value.agg cs).cells.toList m) : ∃ A c, cs = #[.int .u8 m.name, .slice A m.args.length c] ∧ Fits .u8 m.name ∧ SlAt (pI .i64) F w A c m.args := by
  obtain ⟨A, c, h1, h2, h3⟩ := h
  exact ⟨A, c, Array.toList_inj.1 (by simpa [Value.cells] using h1), h2, h3⟩
theorem arg_frm {F : Nat → Prop} {w : World} {cs : Array Value} {m : Frm} (h : pFrm.R F w (Value.agg cs).cells.toList m) : ∃ A c, cs = #[.int .i64 m.const, .slice A m.coefs.length c] ∧ Fits .i64 m.const ∧ SlAt (pI .i64) F w A c m.coefs := by
  obtain ⟨A, c, h1, h2, h3⟩ := h
  exact ⟨A, c, Array.toList_inj.1 (by simpa [Value.cells] using h1), h2, h3⟩
theorem arg_rul {F : Nat → Prop} {w : World} {cs : Array Value} {m : Rul} (h : pRul.R F w (Value.agg cs).cells.toList m) : ∃ A c A' c', cs = #[.int .u8 m.name, .int .i64 m.arity, .int .u8 m.left, .int .u8 m.right, .slice A m.guards.length c, .int .i64 m.weight, .slice A' m.out.length c'] ∧
    (Fits .u8 m.name ∧ Fits .i64 m.arity ∧ Fits .u8 m.left ∧ Fits .u8 m.right ∧ Fits .i64 m.weight) ∧ SlAt pFrm F w A c m.guards ∧ SlAt pShp F w A' c' m.out := by
  obtain ⟨A, c, A', c', h1, h2, h3, h4⟩ := h
  exact ⟨A, c, A', c', Array.toList_inj.1 (by simpa [Value.cells] using h1), h2, h3, h4⟩
end Go.Proofs.YtldccpmnboebmaaDoor

/-! Vf -/
namespace Go.Proofs.YtldccpmnboebmaaDoor
open Go.RowKit Go.Sort
set_option linter.unusedVariables false

def restX (x k : Nat) : List Int := ((List.range k).filter fun (d : Nat) => d / 2 != x / 2).map fun (d : Nat) => (d : Int)
theorem restX_succ (x k : Nat) : restX x (k + 1) = restX x k ++ (if k / 2 = x / 2 then [] else [(k : Int)]) := by
  unfold restX
  rw [List.range_succ, List.filter_append, List.map_append]
  congr 1
  by_cases h : k / 2 = x / 2
  · simp [h]
  · simp [h]
theorem restX_len : ∀ (x : Fin 6) (k : Fin 7), (restX x.val k.val).length ≤ k.val := by decide +kernel
theorem restX_all : ∀ (x : Fin 6), (restX x.val 6).length = 4 := by decide +kernel
theorem restX_at : ∀ (t : Fin 24), (restX (t.val / 4) 6)[t.val % 4]? = some ((secN t.val : Nat) : Int) := by decide +kernel
theorem secN_lt : ∀ (t : Fin 24), secN t.val < 6 := by decide +kernel
end Go.Proofs.YtldccpmnboebmaaDoor

/-! Vg -/
namespace Go.Proofs.YtldccpmnboebmaaDoor
open Go.RowKit Go.Sort
set_option linter.unusedVariables false

theorem ret_boolV {a b : Bool} (h : b = a) : Ending.returned (.bool a) = .returned (.bool b) := by rw [h]
set_option maxRecDepth 100000 in
set_option maxHeartbeats 2000000 in
theorem tfine_calls (v : V3) (w : World) : Calls Tryd.prog 46 #[.agg #[.int .i64 v.1, .int .i64 v.2.1, .int .i64 v.2.2]] w (BoolPost (inV (-1000000) v) w) := by
  obtain ⟨x, y, z⟩ := v
  have hi : ∀ b : Bool, (b = true ↔ (-1000000 ≤ x ∧ x ≤ 1000000) ∧ (-1000000 ≤ y ∧ y ≤ 1000000) ∧ (-1000000 ≤ z ∧ z ≤ 1000000)) → inV (-1000000) (x, y, z) = b := fun b hb => by rw [Bool.eq_iff_iff, inV_iff, hb]
  have Hi := Lib.hid hi; clear hi
  go_enter Tryd.func46, Tryd.ntmps46
  go_wp2
  all_goals
    go_ret
    refine ⟨ret_boolV (Hi.out _ ?_), al1⟩
    simp only [decide_eq_true_eq, Bool.false_eq_true, false_iff]
    omega
set_option maxRecDepth 100000 in
set_option maxHeartbeats 2000000 in
theorem ffine_calls (v : V3) (w : World) : Calls Tryd.prog 38 #[.agg #[.int .i64 v.1, .int .i64 v.2.1, .int .i64 v.2.2], .int .i64 (-1000000)] w (BoolPost (inV (-1000000) v) w) := by
  obtain ⟨x, y, z⟩ := v
  have hi : ∀ b : Bool, (b = true ↔ (-1000000 ≤ x ∧ x ≤ 1000000) ∧ (-1000000 ≤ y ∧ y ≤ 1000000) ∧ (-1000000 ≤ z ∧ z ≤ 1000000)) → inV (-1000000) (x, y, z) = b := fun b hb => by rw [Bool.eq_iff_iff, inV_iff, hb]
  have Hi := Lib.hid hi; clear hi
  go_enter Tryd.func38, Tryd.ntmps38
  go_wp2
  all_goals
    go_ret
    refine ⟨ret_boolV (Hi.out _ ?_), al1⟩
    simp only [decide_eq_true_eq, Bool.false_eq_true, false_iff]
    omega
set_option maxRecDepth 100000 in
set_option maxHeartbeats 2000000 in
theorem rIn_calls (v : V3) (w : World) : Calls Tryd.prog 31 #[.agg #[.int .i64 v.1, .int .i64 v.2.1, .int .i64 v.2.2], .int .i64 (-1000000)] w (BoolPost (inV (-1000000) v) w) := by
  obtain ⟨x, y, z⟩ := v
  have hi : ∀ b : Bool, (b = true ↔ (-1000000 ≤ x ∧ x ≤ 1000000) ∧ (-1000000 ≤ y ∧ y ≤ 1000000) ∧ (-1000000 ≤ z ∧ z ≤ 1000000)) → inV (-1000000) (x, y, z) = b := fun b hb => by rw [Bool.eq_iff_iff, inV_iff, hb]
  have Hi := Lib.hid hi; clear hi
  rcases (show ¬ -1000000 ≤ x ∨ (-1000000 ≤ x ∧ ¬ -1000000 ≤ y) ∨ (-1000000 ≤ x ∧ -1000000 ≤ y ∧ ¬ -1000000 ≤ z) ∨ (-1000000 ≤ x ∧ -1000000 ≤ y ∧ -1000000 ≤ z ∧ ¬ x ≤ 1000000) ∨ (-1000000 ≤ x ∧ -1000000 ≤ y ∧ -1000000 ≤ z ∧ x ≤ 1000000 ∧ ¬ y ≤ 1000000) ∨ (-1000000 ≤ x ∧ -1000000 ≤ y ∧ -1000000 ≤ z ∧ x ≤ 1000000 ∧ y ≤ 1000000 ∧ ¬ z ≤ 1000000) ∨ (-1000000 ≤ x ∧ -1000000 ≤ y ∧ -1000000 ≤ z ∧ x ≤ 1000000 ∧ y ≤ 1000000 ∧ z ≤ 1000000) from by omega) with h1 | ⟨h1, h2⟩ | ⟨h1, h2, h3⟩ | ⟨h1, h2, h3, h4⟩ | ⟨h1, h2, h3, h4, h5⟩ | ⟨h1, h2, h3, h4, h5, h6⟩ | ⟨h1, h2, h3, h4, h5, h6⟩
  all_goals
    go_enter Tryd.func31, Tryd.ntmps31
    go_wp2
    go_ret
    refine ⟨ret_boolV (Hi.out _ ?_), al1⟩
    simp only [Bool.false_eq_true, false_iff, true_iff]
    omega
set_option maxRecDepth 100000 in
set_option maxHeartbeats 2000000 in
theorem fCheck_calls (f : Fr) (w : World) : Calls Tryd.prog 25 #[.agg #[.int .u8 f.1, .int .i64 f.2.1, .int .i64 f.2.2.1, .int .i64 f.2.2.2]] w (IntPost (checkFr f) w) := by
  obtain ⟨t, v⟩ := f
  by_cases ht : t < 24
  · have hff : checkFr (t, v) = if inV (-1000000) v = true then 0 else 8 := by unfold checkFr; rw [if_pos ht]
    have hc := fun W => ffine_calls v W
    have ht' : ¬ 24 ≤ t := by omega
    cases hb : inV (-1000000) v
    all_goals
      rw [hb] at hc hff
      have Hb := Lib.hid hb; clear hb
      have Hc := Lib.hid hc; clear hc
      have Hff := Lib.hid hff; clear hff
      go_enter Tryd.func25, Tryd.ntmps25
      go_wp2_with fail
      refine (Hc.out _).mono ?_
      rintro e w1 ⟨rfl, b1⟩
      have B1 := Lib.hid b1; clear b1
      go_wp2
      go_ret
      exact ⟨by rw [Hff.out]; rfl, al1.trans (B1.out.mono al1.size)⟩
  · have hff : checkFr (t, v) = 8 := by unfold checkFr; rw [if_neg ht]
    have ht' : 24 ≤ t := by omega
    have Hff := Lib.hid hff; clear hff
    go_enter Tryd.func25, Tryd.ntmps25
    go_wp2
    go_ret
    exact ⟨by rw [Hff.out]; rfl, al1⟩
set_option maxRecDepth 100000 in
set_option maxHeartbeats 2000000 in
theorem rFCheck_calls (f : Fr) (w : World) : Calls Tryd.prog 17 #[.agg #[.int .u8 f.1, .int .i64 f.2.1, .int .i64 f.2.2.1, .int .i64 f.2.2.2]] w (IntPost (checkFr f) w) := by
  obtain ⟨t, v⟩ := f
  by_cases ht : t < 24
  · have hff : checkFr (t, v) = if inV (-1000000) v = true then 0 else 8 := by unfold checkFr; rw [if_pos ht]
    have hc := fun W => rIn_calls v W
    have ht' : ¬ 24 ≤ t := by omega
    cases hb : inV (-1000000) v
    all_goals
      rw [hb] at hc hff
      have Hb := Lib.hid hb; clear hb
      have Hc := Lib.hid hc; clear hc
      have Hff := Lib.hid hff; clear hff
      go_enter Tryd.func17, Tryd.ntmps17
      go_wp2_with fail
      refine (Hc.out _).mono ?_
      rintro e w1 ⟨rfl, b1⟩
      have B1 := Lib.hid b1; clear b1
      go_wp2
      go_ret
      exact ⟨by rw [Hff.out]; rfl, al1.trans (B1.out.mono al1.size)⟩
  · have hff : checkFr (t, v) = 8 := by unfold checkFr; rw [if_neg ht]
    have ht' : 24 ≤ t := by omega
    have Hff := Lib.hid hff; clear hff
    go_enter Tryd.func17, Tryd.ntmps17
    go_wp2
    go_ret
    exact ⟨by rw [Hff.out]; rfl, al1⟩
end Go.Proofs.YtldccpmnboebmaaDoor
