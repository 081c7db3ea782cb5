/-
  Layer 17, plain: the turtle: turns by quarters, bends, steps, runs. No walk.
-/
import Derived.Test.YtldccpmnboebmaaVa
import Derived.Test.YtldccpmnboebmaaVb
import Derived.Test.YtldccpmnboebmaaVc
import Derived.Test.YtldccpmnboebmaaWd
namespace Go.Proofs.Ytldccpmnboebmaa
open Go.RowKit
set_option linter.unusedVariables false

/-! ### turns by quarters -/
def axM (m : M3) : Nat → V3
  | 0 => m.1
  | 1 => m.2.1
  | _ => m.2.2
def putM (m : M3) (i : Nat) (v : V3) : M3 := match i with
  | 0 => (v, m.2.1, m.2.2)
  | 1 => (m.1, v, m.2.2)
  | _ => (m.1, m.2.1, v)
def negV (v : V3) : V3 := (-v.1, -v.2.1, -v.2.2)
/-- one quarter: the axis a goes to b, and b to the opposite of a -/
def quM (a b : Nat) (m : M3) : M3 := putM (putM m a (axM m b)) b (negV (axM m a))
def itM (a b : Nat) : Nat → M3 → M3
  | 0, m => m
  | k + 1, m => itM a b k (quM a b m)
theorem itM_succ (a b : Nat) : ∀ (k : Nat) (m : M3), itM a b (k + 1) m = quM a b (itM a b k m)
  | 0, _ => rfl
  | k + 1, m => itM_succ a b k (quM a b m)
def rotF (a b : Nat) (n : Int) (t : Nat) : Nat := namedF (itM a b (n % 4).toNat (axT t))
theorem q4 (n : Int) : (n % 4).toNat < 4 := by omega
theorem rot_chk : ∀ (i : Fin 5) (q : Fin 4) (t : Fin 24), axT (namedF (itM ([0, 1, 0, 2, 1].getD i.val 0) ([1, 0, 2, 0, 2].getD i.val 0) q.val (axT t.val))) = itM ([0, 1, 0, 2, 1].getD i.val 0) ([1, 0, 2, 0, 2].getD i.val 0) q.val (axT t.val) := by decide +kernel
/-- the pairs of axes that occur -/
def Pair5 (a b : Nat) : Prop := (a = 0 ∧ b = 1) ∨ (a = 1 ∧ b = 0) ∨ (a = 0 ∧ b = 2) ∨ (a = 2 ∧ b = 0) ∨ (a = 1 ∧ b = 2)
theorem rot_ax {a b : Nat} (h : Pair5 a b) (n : Int) {t : Nat} (ht : t < 24) : axT (rotF a b n t) = itM a b (n % 4).toNat (axT t) := by
  unfold rotF
  rcases h with ⟨rfl, rfl⟩ | ⟨rfl, rfl⟩ | ⟨rfl, rfl⟩ | ⟨rfl, rfl⟩ | ⟨rfl, rfl⟩
  · exact rot_chk 0 ⟨_, q4 n⟩ ⟨t, ht⟩
  · exact rot_chk 1 ⟨_, q4 n⟩ ⟨t, ht⟩
  · exact rot_chk 2 ⟨_, q4 n⟩ ⟨t, ht⟩
  · exact rot_chk 3 ⟨_, q4 n⟩ ⟨t, ht⟩
  · exact rot_chk 4 ⟨_, q4 n⟩ ⟨t, ht⟩
theorem rot_lt (a b : Nat) (n : Int) (t : Nat) : rotF a b n t < 24 := namedF_lt _
/-- the program's turn about an axis: 2, 1, 0 -/
def abtA (x : Nat) : Nat := (x + 1) % 3
def abtB (x : Nat) : Nat := (x + 2) % 3
def aboutF (x : Nat) (n : Int) : Nat := namedF (itM (abtA x) (abtB x) (n % 4).toNat (axT 0))
theorem about_chk : ∀ (x : Fin 3) (q : Fin 4) (t : Fin 24), namedF (compT (namedF (itM (abtA x.val) (abtB x.val) q.val (axT 0))) t.val) = namedF (itM (abtA x.val) (abtB x.val) q.val (axT t.val)) := by decide +kernel
theorem about_rot {x : Nat} (hx : x < 3) (n : Int) {t : Nat} (ht : t < 24) : namedF (compT (aboutF x n) t) = rotF (abtA x) (abtB x) n t := about_chk ⟨x, hx⟩ ⟨_, q4 n⟩ ⟨t, ht⟩
theorem back_chk : ∀ (q : Fin 4) (t : Fin 24), namedF (itM 0 1 ((4 - q.val) % 4) (axT t.val)) = namedF (itM 1 0 q.val (axT t.val)) ∧ namedF (itM 2 0 ((4 - q.val) % 4) (axT t.val)) = namedF (itM 0 2 q.val (axT t.val)) := by decide +kernel
theorem neg4 (n : Int) : (-n % 4).toNat = (4 - (n % 4).toNat) % 4 := by omega
theorem rot_back1 (n : Int) {t : Nat} (ht : t < 24) : rotF 0 1 (-n) t = rotF 1 0 n t := by
  unfold rotF
  rw [neg4]
  exact (back_chk ⟨_, q4 n⟩ ⟨t, ht⟩).1
theorem rot_back2 (n : Int) {t : Nat} (ht : t < 24) : rotF 2 0 (-n) t = rotF 0 2 n t := by
  unfold rotF
  rw [neg4]
  exact (back_chk ⟨_, q4 n⟩ ⟨t, ht⟩).2
/-! ### bends -/
def bendT (d t : Nat) : Nat :=
  if dotV (dirV d) (axT t).1 ≠ 0 then t
  else if dotV (dirV d) (axT t).2.1 = 0 then rotF 0 2 (dotV (dirV d) (axT t).2.2) t else rotF 0 1 (dotV (dirV d) (axT t).2.1) t
def bendP (d t : Nat) : Nat :=
  if dirV d = (axT t).2.1 then rotF 0 1 1 t else if dirV d = negV (axT t).2.1 then rotF 0 1 (-1) t
  else if dirV d = (axT t).2.2 then rotF 2 0 (-1) t else if dirV d = negV (axT t).2.2 then rotF 2 0 1 t else t
theorem bend_chk : ∀ (d : Fin 6) (t : Fin 24), bendP d.val t.val = bendT d.val t.val ∧ bendT d.val t.val < 24 ∧ dotV (axT (bendT d.val t.val)).1 (dirV d.val) ≠ 0 := by decide +kernel
theorem dot_chk : ∀ (d : Fin 6) (t : Fin 24), (dotV (dirV d.val) (axT t.val).1 = 0 → dotV (dirV d.val) (axT t.val).2.1 = 0 → dotV (dirV d.val) (axT t.val).2.2 = 1 ∨ dotV (dirV d.val) (axT t.val).2.2 = -1) ∧ (dotV (dirV d.val) (axT t.val).2.1 = 0 ∨ dotV (dirV d.val) (axT t.val).2.1 = 1 ∨ dotV (dirV d.val) (axT t.val).2.1 = -1) := by decide +kernel
/-! ### a turtle's steps -/
abbrev Trop := Int × Int
def stepN (m : Mod) : Int := m.args.head?.getD 1
def aheadF (n : Int) (f : Fr) : Fr := (f.1, addV f.2 (mulV n (axT f.1.toNat).1))
def turnF (a b : Nat) (n : Int) (c : Tur) : Tur := ((((rotF a b n c.1.1.toNat : Nat) : Int), c.1.2), c.2)
def bendF (b : Trop) (c : Tur) : Tur := if b.2 = 0 ∨ c.2 % b.2 ≠ 0 then c else ((((bendT b.1.toNat c.1.1.toNat : Nat) : Int), c.1.2), c.2)
structure Sta where
  cur : Tur
  stk : List Tur
  lns : List Ln
  mks : List Mk
def takeF (b : Trop) (s : Sta) (m : Mod) : Option Sta :=
  if m.name = 70 then
    (if inV (-1000000) (aheadF (stepN m) s.cur.1).2 = true then
      (if 1000000 < s.cur.2 + 1 then none
       else some ⟨bendF b (aheadF (stepN m) s.cur.1, s.cur.2 + 1), s.stk, s.lns ++ [⟨s.cur.1.2, (aheadF (stepN m) s.cur.1).2, s.stk.length⟩], s.mks⟩)
     else none)
  else if m.name = 102 then
    (if inV (-1000000) (aheadF (stepN m) s.cur.1).2 = true then some ⟨(aheadF (stepN m) s.cur.1, s.cur.2), s.stk, s.lns, s.mks⟩ else none)
  else if m.name = 43 then some ⟨turnF 0 1 (stepN m) s.cur, s.stk, s.lns, s.mks⟩
  else if m.name = 45 then some ⟨turnF 1 0 (stepN m) s.cur, s.stk, s.lns, s.mks⟩
  else if m.name = 94 then some ⟨turnF 0 2 (stepN m) s.cur, s.stk, s.lns, s.mks⟩
  else if m.name = 38 then some ⟨turnF 2 0 (stepN m) s.cur, s.stk, s.lns, s.mks⟩
  else if m.name = 33 then some ⟨turnF 1 2 (stepN m) s.cur, s.stk, s.lns, s.mks⟩
  else if m.name = 124 then some ⟨turnF 0 1 2 s.cur, s.stk, s.lns, s.mks⟩
  else if m.name = 91 then some ⟨s.cur, s.stk ++ [s.cur], s.lns, s.mks⟩
  else if m.name = 93 then (match s.stk.getLast? with
    | some c => some ⟨c, s.stk.dropLast, s.lns, s.mks⟩
    | none => none)
  else some ⟨s.cur, s.stk, s.lns, s.mks ++ [⟨m.name, s.cur.1.1, s.cur.1.2⟩]⟩
def runF (b : Trop) : Sta → List Mod → Option Sta
  | s, [] => some s
  | s, m :: ms => match takeF b s m with
    | some s' => runF b s' ms
    | none => none
theorem runF_app (b : Trop) : ∀ (ms ns : List Mod) (s : Sta), runF b s (ms ++ ns) = (runF b s ms).bind fun s' => runF b s' ns
  | [], ns, s => rfl
  | m :: ms, ns, s => by
    rw [List.cons_append, runF, runF]
    cases takeF b s m with
    | none => rfl
    | some s' => exact runF_app b ms ns s'
def beginF (t : Tur) : Sta := ⟨t, [], [], []⟩
def trkOf (s : Sta) : Trk := ⟨s.lns, s.mks, s.cur.1, s.cur.2⟩
def zeroTr : Trk := ⟨[], [], (0, (0, 0, 0)), 0⟩
def runT (w : List Mod) (t : Tur) (b : Trop) : Trk × Int :=
  if checkF w = 0 then (if checkFr t.1 = 0 ∧ 0 ≤ t.2 ∧ t.2 ≤ 1000000 then (if b.1 ≤ 5 ∧ 0 ≤ b.2 ∧ b.2 ≤ 1000000 then (match runF b (beginF t) w with
    | some s => (trkOf s, 0)
    | none => (zeroTr, 16)) else (zeroTr, 2)) else (zeroTr, 8)) else (zeroTr, checkF w)
/-! ### a turtle in order -/
structure TurOk (c : Tur) : Prop where
  lo : 0 ≤ c.1.1
  ck : checkFr c.1 = 0
  d0 : 0 ≤ c.2
  d1 : c.2 ≤ 1000000
theorem TurOk.lt {c : Tur} (h : TurOk c) : c.1.1.toNat < 24 := by have := (checkFr_ok h.ck).1; have := h.lo; omega
theorem TurOk.nat {c : Tur} (h : TurOk c) : ((c.1.1.toNat : Nat) : Int) = c.1.1 := by have := h.lo; omega
theorem checkFr_of {f : Fr} (h : f.1 < 24) (h2 : inV (-1000000) f.2 = true) : checkFr f = 0 := by unfold checkFr; rw [if_pos h, if_pos h2]
theorem TurOk.turn {c : Tur} (h : TurOk c) (t : Nat) (ht : t < 24) : TurOk (((t : Int), c.1.2), c.2) :=
  ⟨by simp, checkFr_of (by simp; omega) (checkFr_ok h.ck).2, h.d0, h.d1⟩
structure StaOk (s : Sta) : Prop where
  cur : TurOk s.cur
  stk : ∀ c ∈ s.stk, TurOk c
theorem bendF_ok {b : Trop} {c : Tur} (h : TurOk c) (hb : 0 ≤ b.1 ∧ b.1 ≤ 5) : TurOk (bendF b c) := by
  unfold bendF
  split
  · exact h
  · exact h.turn _ ((bend_chk ⟨b.1.toNat, by omega⟩ ⟨_, h.lt⟩).2.1)
theorem takeF_ok {b : Trop} {s s' : Sta} {m : Mod} (h : StaOk s) (hb : 0 ≤ b.1 ∧ b.1 ≤ 5) (ht : takeF b s m = some s') : StaOk s' := by
  unfold takeF at ht
  split at ht
  · split at ht
    · rename_i hv
      split at ht
      · cases ht
      · rename_i hd
        injection ht with ht
        subst ht
        refine ⟨bendF_ok ⟨h.cur.lo, checkFr_of (checkFr_ok h.cur.ck).1 hv, ?_, ?_⟩ hb, h.stk⟩
        · have := h.cur.d0
          show 0 ≤ s.cur.2 + 1
          omega
        · show s.cur.2 + 1 ≤ 1000000
          omega
    · cases ht
  split at ht
  · split at ht
    · rename_i hv
      injection ht with ht
      subst ht
      exact ⟨⟨h.cur.lo, checkFr_of (checkFr_ok h.cur.ck).1 hv, h.cur.d0, h.cur.d1⟩, h.stk⟩
    · cases ht
  split at ht
  · injection ht with ht; subst ht; exact ⟨h.cur.turn _ (rot_lt _ _ _ _), h.stk⟩
  split at ht
  · injection ht with ht; subst ht; exact ⟨h.cur.turn _ (rot_lt _ _ _ _), h.stk⟩
  split at ht
  · injection ht with ht; subst ht; exact ⟨h.cur.turn _ (rot_lt _ _ _ _), h.stk⟩
  split at ht
  · injection ht with ht; subst ht; exact ⟨h.cur.turn _ (rot_lt _ _ _ _), h.stk⟩
  split at ht
  · injection ht with ht; subst ht; exact ⟨h.cur.turn _ (rot_lt _ _ _ _), h.stk⟩
  split at ht
  · injection ht with ht; subst ht; exact ⟨h.cur.turn _ (rot_lt _ _ _ _), h.stk⟩
  split at ht
  · injection ht with ht
    subst ht
    refine ⟨h.cur, fun c hc => ?_⟩
    rcases List.mem_append.1 hc with hc | hc
    · exact h.stk c hc
    · rw [List.mem_singleton.1 hc]; exact h.cur
  split at ht
  · split at ht
    · rename_i c hc
      injection ht with ht
      subst ht
      exact ⟨h.stk c (List.mem_of_getLast? hc), fun d hd => h.stk d (List.dropLast_subset _ hd)⟩
    · cases ht
  · injection ht with ht; subst ht; exact ⟨h.cur, h.stk⟩
theorem runF_ok {b : Trop} (hb : 0 ≤ b.1 ∧ b.1 ≤ 5) : ∀ {ms : List Mod} {s s' : Sta}, StaOk s → runF b s ms = some s' → StaOk s'
  | [], s, s', h, hr => by injection hr with hr; subst hr; exact h
  | m :: ms, s, s', h, hr => by
    rw [runF] at hr
    cases ht : takeF b s m with
    | none => rw [ht] at hr; cases hr
    | some s1 => rw [ht] at hr; exact runF_ok hb (takeF_ok h hb ht) hr
end Go.Proofs.Ytldccpmnboebmaa
