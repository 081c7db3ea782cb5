/-
  Layer 17, plain: tracks of joined words, of words in brackets, their lines, marks and lengths; bends. No walk.
-/
import Derived.Test.YtldccpmnboebmaaDoorM2
namespace Go.Proofs.YtldccpmnboebmaaDoor
open Go.RowKit
set_option linter.unusedVariables false

theorem scanC (n : Nat) (m : Mod) (ms : List Mod) : scan n (m :: ms) = if m.name = 91 then scan (n + 1) ms else if m.name = 93 then (if n = 0 then none else scan (n - 1) ms) else scan n ms := rfl
theorem scanM : ∀ (a b : List Mod) (n : Nat), scan n (a ++ b) = (scan n a).bind (fun k => scan k b)
  | [], b, n => rfl
  | m :: a, b, n => by
    rw [List.cons_append, scanC, scanC]
    split
    · exact scanM a b _
    · split
      · split
        · rfl
        · exact scanM a b _
      · exact scanM a b _
theorem checkI {w : List Mod} : checkF w = 0 ↔ w.length ≤ 2000 ∧ w.all fineF = true ∧ scan 0 w = some 0 := by
  unfold checkF
  by_cases h1 : 2000 < w.length
  · rw [if_pos h1]; constructor
    · intro h; cases h
    · rintro ⟨h, _⟩; omega
  · rw [if_neg h1]
    cases h2 : w.all fineF
    · simp
    · rw [if_neg (by decide)]
      cases h3 : scan 0 w with
      | none => simp
      | some n =>
        cases n with
        | zero => simp; omega
        | succ n => simp
theorem checkJ {a b : List Mod} (ha : checkF a = 0) (hb : checkF b = 0) (hl : a.length + b.length ≤ 2000) : checkF (a ++ b) = 0 := by
  obtain ⟨_, a2, a3⟩ := checkI.1 ha
  obtain ⟨_, b2, b3⟩ := checkI.1 hb
  exact checkI.2 ⟨by rw [List.length_append]; omega, by rw [List.all_append, a2, b2]; rfl, by rw [scanM, a3]; exact b3⟩

/-! ### a state ahead of which others lie -/
def deepL (k : Nat) (l : Ln) : Ln := ⟨l.fr, l.to, (k : Int) + l.dep⟩
def Sta.ext (s : Sta) (p : List Tur) (L : List Ln) (M : List Mk) : Sta := ⟨s.cur, p ++ s.stk, L ++ s.lns.map (deepL p.length), M ++ s.mks⟩
theorem takeF_ext (b : Trop) (p : List Tur) (L : List Ln) (M : List Mk) (s : Sta) (m : Mod) (h : m.name = 93 → s.stk ≠ []) : takeF b (s.ext p L M) m = (takeF b s m).map fun s' => s'.ext p L M := by
  unfold takeF
  have hc : (s.ext p L M).cur = s.cur := rfl
  rw [hc]
  by_cases h1 : m.name = 70
  · simp only [if_pos h1]
    split
    · split
      · rfl
      · simp only [Option.map_some, Sta.ext, deepL, List.map_append, List.map_cons, List.map_nil, List.append_assoc, List.length_append, Int.natCast_add]
    · rfl
  simp only [if_neg h1]
  by_cases h2 : m.name = 102
  · simp only [if_pos h2]
    split
    · rfl
    · rfl
  simp only [if_neg h2]
  by_cases h3 : m.name = 43
  · simp only [if_pos h3]; rfl
  simp only [if_neg h3]
  by_cases h4 : m.name = 45
  · simp only [if_pos h4]; rfl
  simp only [if_neg h4]
  by_cases h5 : m.name = 94
  · simp only [if_pos h5]; rfl
  simp only [if_neg h5]
  by_cases h6 : m.name = 38
  · simp only [if_pos h6]; rfl
  simp only [if_neg h6]
  by_cases h7 : m.name = 33
  · simp only [if_pos h7]; rfl
  simp only [if_neg h7]
  by_cases h8 : m.name = 124
  · simp only [if_pos h8]; rfl
  simp only [if_neg h8]
  by_cases h9 : m.name = 91
  · simp only [if_pos h9, Option.map_some, Sta.ext, List.append_assoc]
  simp only [if_neg h9]
  by_cases h10 : m.name = 93
  · simp only [if_pos h10]
    have hne := h h10
    have e1 : (s.ext p L M).stk = p ++ s.stk := rfl
    rw [e1, List.getLast?_append, List.dropLast_append_of_ne_nil hne]
    cases hg : s.stk.getLast? with
    | none => exact absurd (List.getLast?_eq_none_iff.1 hg) hne
    | some c => rfl
  · simp only [if_neg h10, Option.map_some, Sta.ext, List.append_assoc]
theorem takeF_stk {b : Trop} {s s' : Sta} {m : Mod} (h : takeF b s m = some s') : s'.stk.length = (if m.name = 91 then s.stk.length + 1 else if m.name = 93 then s.stk.length - 1 else s.stk.length) ∧ (m.name = 93 → s.stk ≠ []) := by
  unfold takeF at h
  by_cases h9 : m.name = 91
  · simp only [h9, if_true, if_false, show ¬ (91 : Int) = 70 from by decide, show ¬ (91 : Int) = 102 from by decide, show ¬ (91 : Int) = 43 from by decide, show ¬ (91 : Int) = 45 from by decide, show ¬ (91 : Int) = 94 from by decide, show ¬ (91 : Int) = 38 from by decide, show ¬ (91 : Int) = 33 from by decide, show ¬ (91 : Int) = 124 from by decide, Option.some.injEq] at h
    subst h
    rw [if_pos h9]
    exact ⟨by simp, fun e => by rw [h9] at e; cases e⟩
  rw [if_neg h9]
  by_cases h10 : m.name = 93
  · simp only [h10, if_true, if_false, show ¬ (93 : Int) = 70 from by decide, show ¬ (93 : Int) = 102 from by decide, show ¬ (93 : Int) = 43 from by decide, show ¬ (93 : Int) = 45 from by decide, show ¬ (93 : Int) = 94 from by decide, show ¬ (93 : Int) = 38 from by decide, show ¬ (93 : Int) = 33 from by decide, show ¬ (93 : Int) = 124 from by decide, show ¬ (93 : Int) = 91 from by decide] at h
    rw [if_pos h10]
    cases hc : s.stk.getLast? with
    | none => rw [hc] at h; cases h
    | some c =>
      rw [hc] at h
      injection h with h
      subst h
      exact ⟨List.length_dropLast, fun _ e => by rw [e] at hc; cases hc⟩
  rw [if_neg h10]
  refine ⟨?_, fun e => absurd e h10⟩
  split at h
  · split at h
    · split at h
      · cases h
      · injection h with h; subst h; rfl
    · cases h
  split at h
  · split at h
    · injection h with h; subst h; rfl
    · cases h
  split at h
  · injection h with h; subst h; rfl
  split at h
  · injection h with h; subst h; rfl
  split at h
  · injection h with h; subst h; rfl
  split at h
  · injection h with h; subst h; rfl
  split at h
  · injection h with h; subst h; rfl
  split at h
  · injection h with h; subst h; rfl
  first
  | (injection h with h; subst h; rfl)
  | (rw [if_neg h9, if_neg h10] at h; injection h with h; subst h; rfl)
theorem takeF_pop {b : Trop} {s : Sta} {m : Mod} {ms : List Mod} {k : Nat} (h : scan s.stk.length (m :: ms) = some k) : m.name = 93 → s.stk ≠ [] := by
  intro e e'
  rw [scanC, if_neg (by rw [e]; decide), if_pos e, if_pos (by rw [e']; rfl)] at h
  cases h
theorem takeF_scan {b : Trop} {s s' : Sta} {m : Mod} {ms : List Mod} {k : Nat} (h : scan s.stk.length (m :: ms) = some k) (ht : takeF b s m = some s') : scan s'.stk.length ms = some k := by
  obtain ⟨h1, h2⟩ := takeF_stk ht
  rw [scanC] at h
  rw [h1]
  by_cases h9 : m.name = 91
  · rw [if_pos h9] at h ⊢; exact h
  · rw [if_neg h9] at h ⊢
    by_cases h10 : m.name = 93
    · rw [if_pos h10] at h ⊢
      split at h
      · cases h
      · exact h
    · rw [if_neg h10] at h ⊢; exact h
theorem runF_ext (b : Trop) (p : List Tur) (L : List Ln) (M : List Mk) : ∀ (ms : List Mod) (s : Sta) (k : Nat), scan s.stk.length ms = some k → runF b (s.ext p L M) ms = (runF b s ms).map fun s' => s'.ext p L M
  | [], s, k, _ => rfl
  | m :: ms, s, k, h => by
    rw [runF, runF, takeF_ext b p L M s m (takeF_pop (b := b) h)]
    cases ht : takeF b s m with
    | none => rfl
    | some s' => exact runF_ext b p L M ms s' k (takeF_scan h ht)
theorem runF_stk {b : Trop} : ∀ {ms : List Mod} {s s' : Sta} {k : Nat}, scan s.stk.length ms = some k → runF b s ms = some s' → s'.stk.length = k
  | [], s, s', k, h, hr => by
    injection hr with hr; subst hr
    injection h
  | m :: ms, s, s', k, h, hr => by
    rw [runF] at hr
    cases ht : takeF b s m with
    | none => rw [ht] at hr; cases hr
    | some s1 => rw [ht] at hr; exact runF_stk (takeF_scan h ht) hr
theorem deep0 (l : List Ln) : l.map (deepL 0) = l := by
  have : deepL 0 = id := by funext x; cases x; simp [deepL]
  rw [this, List.map_id]

/-! ### a valid call -/
def FitT (t : Tur) (b : Trop) : Prop := checkFr t.1 = 0 ∧ 0 ≤ t.2 ∧ t.2 ≤ 1000000 ∧ b.1 ≤ 5 ∧ 0 ≤ b.2 ∧ b.2 ≤ 1000000
theorem runT_fit {w : List Mod} {t : Tur} {b : Trop} (hw : checkF w = 0) (h : FitT t b) : runT w t b = (match runF b (beginF t) w with
    | some s => (trkOf s, 0)
    | none => (zeroTr, 16)) := by
  obtain ⟨h1, h2, h3, h4, h5, h6⟩ := h
  unfold runT
  rw [if_pos hw, if_pos ⟨h1, h2, h3⟩, if_pos ⟨h4, h5, h6⟩]
  rfl
theorem runT_err {w : List Mod} {t : Tur} {b : Trop} (hw : checkF w = 0) (h : FitT t b) : (runT w t b).2 = 0 ∨ (runT w t b).2 = 16 := by
  rw [runT_fit hw h]
  cases runF b (beginF t) w with
  | none => exact .inr rfl
  | some s => exact .inl rfl
/-- tracks of joined words -/
theorem join_law {v w : List Mod} {t : Tur} {b : Trop} (hv : checkF v = 0) (hw : checkF w = 0) (hl : v.length + w.length ≤ 2000) (h : FitT t b) (ht0 : 0 ≤ t.1.1) (hb0 : 0 ≤ b.1) :
    ((runT v t b).2 ≠ 0 → (runT v t b).2 = 16 ∧ (runT (v ++ w) t b).2 = 16) ∧
    ((runT v t b).2 = 0 → FitT ((runT v t b).1.fr, (runT v t b).1.drawn) b ∧ 0 ≤ (runT v t b).1.fr.1 ∧
      ((runT w ((runT v t b).1.fr, (runT v t b).1.drawn) b).2 ≠ 0 → (runT w ((runT v t b).1.fr, (runT v t b).1.drawn) b).2 = 16 ∧ (runT (v ++ w) t b).2 = 16) ∧
      ((runT w ((runT v t b).1.fr, (runT v t b).1.drawn) b).2 = 0 → runT (v ++ w) t b = (⟨(runT v t b).1.lines ++ (runT w ((runT v t b).1.fr, (runT v t b).1.drawn) b).1.lines, (runT v t b).1.marks ++ (runT w ((runT v t b).1.fr, (runT v t b).1.drawn) b).1.marks, (runT w ((runT v t b).1.fr, (runT v t b).1.drawn) b).1.fr, (runT w ((runT v t b).1.fr, (runT v t b).1.drawn) b).1.drawn⟩, 0))) := by
  have hj := checkJ hv hw hl
  have e1 := runT_fit hv h
  have e2 := runT_fit hj h
  obtain ⟨h1, h2, h3, h4, h5, h6⟩ := h
  have hsv := (checkI.1 hv).2.2
  have hsw := (checkI.1 hw).2.2
  rw [runF_app] at e2
  cases hr : runF b (beginF t) v with
  | none =>
    rw [hr] at e1 e2
    simp only [Option.bind_none] at e1 e2
    rw [e1, e2]
    exact ⟨fun _ => ⟨rfl, rfl⟩, fun h => by cases h⟩
  | some s =>
    rw [hr] at e1 e2
    simp only [Option.bind_some] at e1 e2
    rw [e1]
    refine ⟨fun h => absurd rfl h, fun _ => ?_⟩
    have hs0 : s.stk = [] := List.eq_nil_of_length_eq_zero (runF_stk (s := beginF t) hsv hr)
    have hok : StaOk s := runF_ok ⟨hb0, h4⟩ (s := beginF t) ⟨⟨ht0, h1, h2, h3⟩, fun c hc => by cases hc⟩ hr
    have hx : s = (beginF s.cur).ext [] s.lns s.mks := by
      obtain ⟨c, k, l, m⟩ := s
      simp only at hs0
      subst hs0
      simp [Sta.ext, beginF]
    have hft : FitT (s.cur.1, s.cur.2) b := ⟨hok.cur.ck, hok.cur.d0, hok.cur.d1, h4, h5, h6⟩
    have e3 := runT_fit hw hft
    rw [hx, runF_ext b [] s.lns s.mks w (beginF s.cur) 0 hsw] at e2
    show FitT (s.cur.1, s.cur.2) b ∧ 0 ≤ s.cur.1.1 ∧ ((runT w (s.cur.1, s.cur.2) b).2 ≠ 0 → (runT w (s.cur.1, s.cur.2) b).2 = 16 ∧ (runT (v ++ w) t b).2 = 16) ∧ ((runT w (s.cur.1, s.cur.2) b).2 = 0 → runT (v ++ w) t b = (⟨s.lns ++ (runT w (s.cur.1, s.cur.2) b).1.lines, s.mks ++ (runT w (s.cur.1, s.cur.2) b).1.marks, (runT w (s.cur.1, s.cur.2) b).1.fr, (runT w (s.cur.1, s.cur.2) b).1.drawn⟩, 0))
    refine ⟨hft, hok.cur.lo, ?_, ?_⟩
    · intro hne
      rw [e3] at hne ⊢
      cases hr2 : runF b (beginF (s.cur.1, s.cur.2)) w with
      | none =>
        have hr3 : runF b (beginF s.cur) w = none := hr2
        rw [hr3] at e2
        rw [e2]
        exact ⟨rfl, rfl⟩
      | some s2 => rw [hr2] at hne; exact absurd rfl hne
    · intro h0
      rw [e3] at h0 ⊢
      cases hr2 : runF b (beginF (s.cur.1, s.cur.2)) w with
      | none => rw [hr2] at h0; cases h0
      | some s2 =>
        have hr3 : runF b (beginF s.cur) w = some s2 := hr2
        rw [hr3] at e2
        rw [e2]
        simp only [Option.map_some, Sta.ext, trkOf, List.length_nil, deep0]
/-- words in brackets -/
theorem branch_law {w : List Mod} {t : Tur} {b : Trop} (hw : checkF w = 0) (hl : w.length + 2 ≤ 2000) (h : FitT t b) (ht0 : 0 ≤ t.1.1) (hb0 : 0 ≤ b.1) :
    checkF (⟨91, []⟩ :: (w ++ [⟨93, []⟩])) = 0 ∧
    ((runT w t b).2 ≠ 0 → (runT (⟨91, []⟩ :: (w ++ [⟨93, []⟩])) t b).2 = (runT w t b).2) ∧
    ((runT w t b).2 = 0 → runT (⟨91, []⟩ :: (w ++ [⟨93, []⟩])) t b = (⟨(runT w t b).1.lines.map (deepL 1), (runT w t b).1.marks, t.1, t.2⟩, 0)) := by
  obtain ⟨c1, c2, c3⟩ := checkI.1 hw
  have hup : scan 1 w = some 1 := by
    have : ∀ (a : List Mod) (n d k : Nat), scan n a = some k → scan (n + d) a = some (k + d) := by
      intro a
      induction a with
      | nil => intro n d k h; injection h with h; subst h; rfl
      | cons m a ih =>
        intro n d k h
        rw [scanC] at h ⊢
        split at h
        · rename_i h9
          rw [if_pos h9, show n + d + 1 = n + 1 + d from by omega]
          exact ih _ _ _ h
        · rename_i h9
          rw [if_neg h9]
          split at h
          · rename_i h10
            rw [if_pos h10]
            split at h
            · cases h
            · rw [if_neg (by omega), show n + d - 1 = n - 1 + d from by omega]
              exact ih _ _ _ h
          · rename_i h10
            rw [if_neg h10]
            exact ih _ _ _ h
    exact this w 0 1 0 c3
  have hck : checkF (⟨91, []⟩ :: (w ++ [⟨93, []⟩])) = 0 := by
    refine checkI.2 ⟨by simp; omega, ?_, ?_⟩
    · rw [List.all_cons, List.all_append, c2]
      decide
    · rw [scanC, if_pos rfl, scanM, hup]
      rfl
  have e1 := runT_fit hw h
  have e2 := runT_fit hck h
  have hx : (⟨t, [] ++ [t], [], []⟩ : Sta) = (beginF t).ext [t] [] [] := rfl
  have e0 : runF b (beginF t) (⟨91, []⟩ :: (w ++ [⟨93, []⟩])) = runF b ((beginF t).ext [t] [] []) (w ++ [⟨93, []⟩]) := rfl
  rw [e0, runF_app, runF_ext b [t] [] [] w (beginF t) 0 c3] at e2
  refine ⟨hck, ?_, ?_⟩
  · intro hne
    cases hr : runF b (beginF t) w with
    | none => rw [hr] at e1 e2; rw [e1, e2]; rfl
    | some s => rw [hr] at e1; rw [e1] at hne; exact absurd rfl hne
  · intro h0
    cases hr : runF b (beginF t) w with
    | none => rw [hr] at e1; rw [e1] at h0; cases h0
    | some s =>
      rw [hr] at e1 e2
      have hs0 : s.stk = [] := List.eq_nil_of_length_eq_zero (runF_stk (s := beginF t) c3 hr)
      rw [e1, e2]
      obtain ⟨c, k, l, m⟩ := s
      simp only at hs0
      subst hs0
      rfl
/-! ### lines, marks -/
def nF (w : List Mod) : Nat := (w.filter fun m => m.name == 70).length
def mkB (c : Int) : Bool := c != 70 && c != 102 && (upB c || loB c)
def nM (w : List Mod) : Nat := (w.filter fun m => mkB m.name).length
theorem letter_mark {c : Int} (h : letterB c = true) (h1 : ¬ c = 70) (h2 : ¬ c = 102) (hs : symB c = false) : mkB c = true := by
  unfold letterB at h
  rw [hs, Bool.or_false] at h
  unfold mkB
  rw [h]
  simp [h1, h2]
theorem takeF_counts {b : Trop} {s s' : Sta} {m : Mod} (hm : letterB m.name = true) (ht : takeF b s m = some s') : s'.lns.length = s.lns.length + nF [m] ∧ s'.mks.length = s.mks.length + nM [m] := by
  have no : ∀ c : Int, m.name = c → c ≠ 70 → mkB c = false → nF [m] = 0 ∧ nM [m] = 0 := by
    intro c e h1 h2
    unfold nF nM
    rw [List.filter_cons_of_neg (by simpa [e] using h1), List.filter_cons_of_neg (by rw [e, h2]; decide)]
    exact ⟨rfl, rfl⟩
  unfold takeF at ht
  split at ht
  · rename_i e
    split at ht
    · split at ht
      · cases ht
      · injection ht with ht
        subst ht
        unfold nF nM
        rw [List.filter_cons_of_pos (by simpa using e), List.filter_cons_of_neg (by rw [e]; decide)]
        simp
    · cases ht
  rename_i e1
  split at ht
  · rename_i e
    split at ht
    · injection ht with ht
      subst ht
      obtain ⟨a, c⟩ := no 102 e (by decide) (by decide)
      rw [a, c]; exact ⟨rfl, rfl⟩
    · cases ht
  rename_i e2
  split at ht
  · rename_i e; injection ht with ht; subst ht; obtain ⟨a, c⟩ := no _ e (by decide) (by decide); rw [a, c]; exact ⟨rfl, rfl⟩
  rename_i e3
  split at ht
  · rename_i e; injection ht with ht; subst ht; obtain ⟨a, c⟩ := no _ e (by decide) (by decide); rw [a, c]; exact ⟨rfl, rfl⟩
  rename_i e4
  split at ht
  · rename_i e; injection ht with ht; subst ht; obtain ⟨a, c⟩ := no _ e (by decide) (by decide); rw [a, c]; exact ⟨rfl, rfl⟩
  rename_i e5
  split at ht
  · rename_i e; injection ht with ht; subst ht; obtain ⟨a, c⟩ := no _ e (by decide) (by decide); rw [a, c]; exact ⟨rfl, rfl⟩
  rename_i e6
  split at ht
  · rename_i e; injection ht with ht; subst ht; obtain ⟨a, c⟩ := no _ e (by decide) (by decide); rw [a, c]; exact ⟨rfl, rfl⟩
  rename_i e7
  split at ht
  · rename_i e; injection ht with ht; subst ht; obtain ⟨a, c⟩ := no _ e (by decide) (by decide); rw [a, c]; exact ⟨rfl, rfl⟩
  rename_i e8
  split at ht
  · rename_i e; injection ht with ht; subst ht; obtain ⟨a, c⟩ := no _ e (by decide) (by decide); rw [a, c]; exact ⟨rfl, rfl⟩
  rename_i e9
  split at ht
  · rename_i e
    obtain ⟨a, c⟩ := no _ e (by decide) (by decide)
    split at ht
    · injection ht with ht; subst ht; rw [a, c]; exact ⟨rfl, rfl⟩
    · cases ht
  rename_i e10
  injection ht with ht
  subst ht
  have hs : symB m.name = false := by
    unfold symB symL
    simp [e3, e4, e5, e6, e7, e8, e9, e10]
  unfold nF nM
  rw [List.filter_cons_of_neg (by simpa using e1), List.filter_cons_of_pos (p := fun m : Mod => mkB m.name) (letter_mark hm e1 e2 hs)]
  simp
theorem runF_counts {b : Trop} : ∀ {ms : List Mod} {s s' : Sta}, (∀ m ∈ ms, letterB m.name = true) → runF b s ms = some s' → s'.lns.length = s.lns.length + nF ms ∧ s'.mks.length = s.mks.length + nM ms
  | [], s, s', _, hr => by injection hr with hr; subst hr; exact ⟨rfl, rfl⟩
  | m :: ms, s, s', hl, hr => by
    rw [runF] at hr
    cases ht : takeF b s m with
    | none => rw [ht] at hr; cases hr
    | some s1 =>
      rw [ht] at hr
      obtain ⟨a1, a2⟩ := takeF_counts (hl m (by simp)) ht
      obtain ⟨b1, b2⟩ := runF_counts (fun x hx => hl x (by simp [hx])) hr
      have c1 : nF (m :: ms) = nF [m] + nF ms := by unfold nF; rw [show m :: ms = [m] ++ ms from rfl, List.filter_append, List.length_append]
      have c2 : nM (m :: ms) = nM [m] + nM ms := by unfold nM; rw [show m :: ms = [m] ++ ms from rfl, List.filter_append, List.length_append]
      omega
end Go.Proofs.YtldccpmnboebmaaDoor
