/-
  Layer 17, plain: lengths of tracks, bends, tracks in frames. No walk.
-/
import Derived.Test.YtldccpmnboebmaaDoorAb
import Derived.Test.YtldccpmnboebmaaDoorVs
import Derived.Test.YtldccpmnboebmaaDoorVv
namespace Go.Proofs.YtldccpmnboebmaaDoor
open Go.RowKit
set_option linter.unusedVariables false

/-! ### lengths -/
theorem ax_six : ∀ t : Fin 24, (axT t.val).1 = (1, 0, 0) ∨ (axT t.val).1 = (-1, 0, 0) ∨ (axT t.val).1 = (0, 1, 0) ∨ (axT t.val).1 = (0, -1, 0) ∨ (axT t.val).1 = (0, 0, 1) ∨ (axT t.val).1 = (0, 0, -1) := by decide +kernel
theorem step_line {t : Nat} (ht : t < 24) (n : Int) (a : V3) : farV a (addV a (mulV n (axT t).1)) = absI n ∧ 2 ≤ sameN ⟨a, addV a (mulV n (axT t).1), 0⟩ := by
  obtain ⟨x, y, z⟩ := a
  have ht' := ax_six ⟨t, ht⟩
  simp only at ht'
  rcases ht' with h | h | h | h | h | h <;> rw [h] <;> unfold farV addV mulV sameN absI <;> simp only [] <;> constructor <;> first | omega | (repeat' split) <;> omega
def sumA : List Mod → Int
  | [] => 0
  | m :: ms => (if m.name = 70 then absI (stepN m) else 0) + sumA ms
structure GoodS (s : Sta) : Prop where
  ok : StaOk s
  ln : ∀ l ∈ s.lns, lnOk l = true
  mrk : ∀ m ∈ s.mks, mkOk m = true
theorem lenF_snoc : ∀ (ls : List Ln) (l : Ln), lenF (ls ++ [l]) = lenF ls + farV l.fr l.to
  | [], l => by simp [lenF]
  | x :: ls, l => by
    rw [List.cons_append, lenF, lenF, lenF_snoc ls l]
    omega
theorem takeF_good {b : Trop} {s s' : Sta} {m : Mod} (h : GoodS s) (hb : 0 ≤ b.1 ∧ b.1 ≤ 5) (ht : takeF b s m = some s') : GoodS s' ∧ lenF s'.lns = lenF s.lns + (if m.name = 70 then absI (stepN m) else 0) := by
  have hok := takeF_ok h.ok hb ht
  unfold takeF at ht
  split at ht
  · rename_i e
    rw [if_pos e]
    split at ht
    · rename_i hv
      split at ht
      · cases ht
      · injection ht with ht
        subst ht
        obtain ⟨s1, s2⟩ := step_line h.ok.cur.lt (stepN m) s.cur.1.2
        refine ⟨⟨hok, fun l hl => ?_, h.mrk⟩, ?_⟩
        · rcases List.mem_append.1 hl with hl | hl
          · exact h.ln l hl
          · rw [List.mem_singleton.1 hl]
            unfold lnOk
            rw [(checkFr_ok h.ok.cur.ck).2, hv]
            simp only [Bool.and_self, Bool.true_and, decide_eq_true_eq]
            exact s2
        · rw [lenF_snoc]
          show _ + farV s.cur.1.2 (aheadF (stepN m) s.cur.1).2 = _
          rw [show (aheadF (stepN m) s.cur.1).2 = addV s.cur.1.2 (mulV (stepN m) (axT s.cur.1.1.toNat).1) from rfl, s1]
    · cases ht
  rename_i e1
  rw [if_neg e1, Int.add_zero]
  split at ht
  · split at ht
    · injection ht with ht; subst ht; exact ⟨⟨hok, h.ln, h.mrk⟩, rfl⟩
    · cases ht
  split at ht
  · injection ht with ht; subst ht; exact ⟨⟨hok, h.ln, h.mrk⟩, rfl⟩
  split at ht
  · injection ht with ht; subst ht; exact ⟨⟨hok, h.ln, h.mrk⟩, rfl⟩
  split at ht
  · injection ht with ht; subst ht; exact ⟨⟨hok, h.ln, h.mrk⟩, rfl⟩
  split at ht
  · injection ht with ht; subst ht; exact ⟨⟨hok, h.ln, h.mrk⟩, rfl⟩
  split at ht
  · injection ht with ht; subst ht; exact ⟨⟨hok, h.ln, h.mrk⟩, rfl⟩
  split at ht
  · injection ht with ht; subst ht; exact ⟨⟨hok, h.ln, h.mrk⟩, rfl⟩
  split at ht
  · injection ht with ht; subst ht; exact ⟨⟨hok, h.ln, h.mrk⟩, rfl⟩
  split at ht
  · split at ht
    · injection ht with ht; subst ht; exact ⟨⟨hok, h.ln, h.mrk⟩, rfl⟩
    · cases ht
  · injection ht with ht
    subst ht
    refine ⟨⟨hok, h.ln, fun x hx => ?_⟩, rfl⟩
    rcases List.mem_append.1 hx with hx | hx
    · exact h.mrk x hx
    · rw [List.mem_singleton.1 hx]
      unfold mkOk
      have := h.ok.cur.ck
      simpa using this
theorem runF_good {b : Trop} (hb : 0 ≤ b.1 ∧ b.1 ≤ 5) : ∀ {ms : List Mod} {s s' : Sta}, GoodS s → runF b s ms = some s' → GoodS s' ∧ lenF s'.lns = lenF s.lns + sumA ms
  | [], s, s', h, hr => by injection hr with hr; subst hr; exact ⟨h, by simp [sumA]⟩
  | m :: ms, s, s', h, hr => by
    rw [runF] at hr
    cases ht : takeF b s m with
    | none => rw [ht] at hr; cases hr
    | some s1 =>
      rw [ht] at hr
      obtain ⟨a1, a2⟩ := takeF_good h hb ht
      obtain ⟨b1, b2⟩ := runF_good hb a1 hr
      exact ⟨b1, by rw [b2, a2, sumA]; omega⟩
theorem fit_good {t : Tur} {b : Trop} (h : FitT t b) (ht0 : 0 ≤ t.1.1) : GoodS (beginF t) :=
  ⟨⟨⟨ht0, h.1, h.2.1, h.2.2.1⟩, fun c hc => (by cases hc)⟩, fun l hl => (by cases hl), fun m hm => (by cases hm)⟩
theorem letters_of {w : List Mod} (h : checkF w = 0) : ∀ m ∈ w, letterB m.name = true := fun m hm => by
  have := List.all_eq_true.1 (checkI.1 h).2.1 m hm
  unfold fineF at this
  simp only [Bool.and_eq_true] at this
  exact this.1.1
/-- what a run without error hands back -/
theorem run_some {w : List Mod} {t : Tur} {b : Trop} (hw : checkF w = 0) (h : FitT t b) (h0 : (runT w t b).2 = 0) : ∃ s, runF b (beginF t) w = some s ∧ runT w t b = (trkOf s, 0) := by
  rw [runT_fit hw h] at h0 ⊢
  cases hr : runF b (beginF t) w with
  | none => rw [hr] at h0; cases h0
  | some s => exact ⟨s, rfl, rfl⟩
theorem good_check {s : Sta} (h : GoodS s) (hl : s.lns.length ≤ 2000) (hm : s.mks.length ≤ 2000) : checkT (trkOf s) = 0 := by
  unfold checkT
  refine if_pos ⟨?_, ?_, h.ok.cur.ck, hl, hm⟩
  · unfold badL
    rw [List.any_eq_false]
    intro l hl
    rw [h.ln l hl]
    decide
  · unfold badM
    rw [List.any_eq_false]
    intro m hm
    rw [h.mrk m hm]
    decide
theorem nF_le (w : List Mod) : nF w ≤ w.length := List.length_filter_le _ _
theorem nM_le (w : List Mod) : nM w ≤ w.length := List.length_filter_le _ _
theorem length_law {w : List Mod} {t : Tur} {b : Trop} (hw : checkF w = 0) (h : FitT t b) (ht0 : 0 ≤ t.1.1) (hb0 : 0 ≤ b.1) (h0 : (runT w t b).2 = 0) :
    lengthT (runT w t b).1 = (sumA w, 0) ∧ (runT w t b).1.lines.length = nF w ∧ (runT w t b).1.marks.length = nM w ∧ checkT (runT w t b).1 = 0 := by
  obtain ⟨s, hr, e⟩ := run_some hw h h0
  obtain ⟨g, hl⟩ := runF_good ⟨hb0, h.2.2.2.1⟩ (fit_good h ht0) hr
  obtain ⟨c1, c2⟩ := runF_counts (letters_of hw) hr
  have hlen := (checkI.1 hw).1
  have n1 := nF_le w
  have n2 := nM_le w
  have c1' : s.lns.length = nF w := by rw [c1]; simp [beginF]
  have c2' : s.mks.length = nM w := by rw [c2]; simp [beginF]
  have hck := good_check g (by omega) (by omega)
  rw [e]
  refine ⟨?_, c1', c2', hck⟩
  unfold lengthT
  rw [if_pos hck]
  show (lenF s.lns, (0 : Int)) = _
  rw [hl]
  simp [beginF, lenF]
/-! ### bends -/
theorem bend_end {w : List Mod} {t : Tur} {d : Int} (hw : checkF w = 0) (hl : w.length ≤ 1999) (h : FitT t (d, 1)) (ht0 : 0 ≤ t.1.1) (hd0 : 0 ≤ d) :
    checkF (w ++ [⟨70, [0]⟩]) = 0 ∧ ((runT (w ++ [⟨70, [0]⟩]) t (d, 1)).2 = 0 → (0 ≤ (runT (w ++ [⟨70, [0]⟩]) t (d, 1)).1.fr.1 ∧ (runT (w ++ [⟨70, [0]⟩]) t (d, 1)).1.fr.1 < 24) ∧ dotV (axT (runT (w ++ [⟨70, [0]⟩]) t (d, 1)).1.fr.1.toNat).1 (dirV d.toNat) ≠ 0) := by
  have hck : checkF (w ++ [⟨70, [0]⟩]) = 0 := checkJ hw (by decide +kernel) (by simp; omega)
  refine ⟨hck, fun h0 => ?_⟩
  obtain ⟨s, hr, e⟩ := run_some hck h h0
  rw [runF_app] at hr
  cases h1 : runF (d, 1) (beginF t) w with
  | none => rw [h1] at hr; cases hr
  | some s1 =>
    rw [h1] at hr
    have hok : StaOk s1 := runF_ok (b := (d, 1)) ⟨hd0, h.2.2.2.1⟩ (s := beginF t) ⟨⟨ht0, h.1, h.2.1, h.2.2.1⟩, fun c hc => by cases hc⟩ h1
    simp only [Option.bind_some, runF] at hr
    have hd5 : d ≤ 5 := h.2.2.2.1
    cases h2 : takeF (d, 1) s1 ⟨70, [0]⟩ with
    | none => rw [h2] at hr; cases hr
    | some s2 =>
      rw [h2] at hr
      injection hr with hr
      subst hr
      unfold takeF at h2
      rw [if_pos rfl] at h2
      split at h2
      · split at h2
        · cases h2
        · injection h2 with h2
          subst h2
          rw [e]
          have hb := bend_chk ⟨d.toNat, by omega⟩ ⟨s1.cur.1.1.toNat, hok.cur.lt⟩
          simp only at hb
          have hbf : bendF (d, 1) (aheadF (stepN ⟨70, [0]⟩) s1.cur.1, s1.cur.2 + 1) = ((((bendT d.toNat s1.cur.1.1.toNat : Nat) : Int), (aheadF (stepN ⟨70, [0]⟩) s1.cur.1).2), s1.cur.2 + 1) := by
            unfold bendF
            rw [if_neg (by simp only [not_or, Decidable.not_not]; exact ⟨by decide, Int.emod_one _⟩)]
            rfl
          unfold trkOf
          simp only [hbf, Int.toNat_natCast]
          exact ⟨⟨by omega, by have := hb.2.1; omega⟩, hb.2.2⟩
      · cases h2
theorem bend_never {d : Int} : ∀ (w : List Mod) (s : Sta), (0 ≤ s.cur.2 ∧ s.cur.2 + w.length < 1000000) → (∀ c ∈ s.stk, 0 ≤ c.2 ∧ c.2 + w.length < 1000000) → runF (d, 1000000) s w = runF (0, 0) s w
  | [], s, _, _ => rfl
  | m :: ms, s, h1, h2 => by
    have hlen : ((m :: ms).length : Int) = ms.length + 1 := by simp
    rw [hlen] at h1 h2
    have ht : takeF (d, 1000000) s m = takeF (0, 0) s m := by
      unfold takeF
      have hb : bendF (d, 1000000) (aheadF (stepN m) s.cur.1, s.cur.2 + 1) = bendF (0, 0) (aheadF (stepN m) s.cur.1, s.cur.2 + 1) := by
        unfold bendF
        rw [if_pos (.inr (by simp only; omega)), if_pos (.inl rfl)]
      rw [hb]
    rw [runF, runF, ht]
    cases hk : takeF (0, 0) s m with
    | none => rfl
    | some s' =>
      have hkeep : (0 ≤ s'.cur.2 ∧ s'.cur.2 + ms.length < 1000000) ∧ (∀ c ∈ s'.stk, 0 ≤ c.2 ∧ c.2 + (ms.length : Int) < 1000000) := by
        have hold : ∀ c ∈ s.stk, 0 ≤ c.2 ∧ c.2 + (ms.length : Int) < 1000000 := fun c hc => by have := h2 c hc; omega
        unfold takeF at hk
        split at hk
        · split at hk
          · split at hk
            · cases hk
            · injection hk with hk
              subst hk
              refine ⟨?_, hold⟩
              have : (bendF (0, 0) (aheadF (stepN m) s.cur.1, s.cur.2 + 1)).2 = s.cur.2 + 1 := by unfold bendF; rw [if_pos (.inl rfl)]
              simp only [this]
              omega
          · cases hk
        split at hk
        · split at hk
          · injection hk with hk; subst hk; exact ⟨by simp only; omega, hold⟩
          · cases hk
        split at hk
        · injection hk with hk; subst hk; exact ⟨by simp only [turnF]; omega, hold⟩
        split at hk
        · injection hk with hk; subst hk; exact ⟨by simp only [turnF]; omega, hold⟩
        split at hk
        · injection hk with hk; subst hk; exact ⟨by simp only [turnF]; omega, hold⟩
        split at hk
        · injection hk with hk; subst hk; exact ⟨by simp only [turnF]; omega, hold⟩
        split at hk
        · injection hk with hk; subst hk; exact ⟨by simp only [turnF]; omega, hold⟩
        split at hk
        · injection hk with hk; subst hk; exact ⟨by simp only [turnF]; omega, hold⟩
        split at hk
        · injection hk with hk
          subst hk
          refine ⟨by simp only; omega, fun c hc => ?_⟩
          rcases List.mem_append.1 hc with hc | hc
          · exact hold c hc
          · rw [List.mem_singleton.1 hc]; omega
        split at hk
        · split at hk
          · rename_i c hc
            injection hk with hk
            subst hk
            exact ⟨hold c (List.mem_of_getLast? hc), fun x hx => hold x (List.dropLast_subset _ hx)⟩
          · cases hk
        · injection hk with hk; subst hk; exact ⟨by simp only; omega, hold⟩
      exact bend_never ms s' hkeep.1 hkeep.2
theorem never_law {w : List Mod} {t : Tur} {d : Int} (hw : checkF w = 0) (h : FitT t (d, 0)) (hl : t.2 + w.length < 1000000) : runT w t (0, 0) = runT w t (d, 1000000) := by
  obtain ⟨h1, h2, h3, h4, h5, h6⟩ := h
  have e1 := runT_fit (b := (0, 0)) hw ⟨h1, h2, h3, by decide, by decide, by decide⟩
  have e2 := runT_fit (b := (d, 1000000)) hw ⟨h1, h2, h3, h4, (by show (0 : Int) ≤ 1000000; decide), (by show (1000000 : Int) ≤ 1000000; decide)⟩
  rw [e1, e2, bend_never w (beginF t) ⟨h2, hl⟩ fun c hc => by cases hc]
/-! ### tracks in frames -/
def mapM3 (L : V3 → V3) (m : M3) : M3 := (L m.1, L m.2.1, L m.2.2)
theorem compT_map (a b : Nat) : compT a b = mapM3 (sumV (axT b)) (axT a) := rfl
theorem sumV_neg (m : M3) (v : V3) : sumV m (negV v) = negV (sumV m v) := by
  unfold sumV negV
  simp only [Prod.mk.injEq]
  refine ⟨?_, ?_, ?_⟩ <;> simp only [Int.neg_mul] <;> omega
theorem quM_map {L : V3 → V3} (hL : ∀ v, L (negV v) = negV (L v)) {a b : Nat} (h : Pair5 a b) (m : M3) : quM a b (mapM3 L m) = mapM3 L (quM a b m) := by
  rcases h with ⟨rfl, rfl⟩ | ⟨rfl, rfl⟩ | ⟨rfl, rfl⟩ | ⟨rfl, rfl⟩ | ⟨rfl, rfl⟩ <;> simp [quM, putM, axM, mapM3, hL]
theorem itM_map {L : V3 → V3} (hL : ∀ v, L (negV v) = negV (L v)) {a b : Nat} (h : Pair5 a b) : ∀ (k : Nat) (m : M3), itM a b k (mapM3 L m) = mapM3 L (itM a b k m)
  | 0, _ => rfl
  | k + 1, m => by rw [itM, itM, quM_map hL h, itM_map hL h k]
theorem named_ax {s t : Nat} (hs : s < 24) (ht : t < 24) : axT (namedF (compT s t)) = compT s t := by
  have h := compT_named ⟨s, hs⟩ ⟨t, ht⟩
  simp only at h
  unfold namedF
  cases h1 : turnOf (compT s t) with
  | none => rw [h1] at h; cases h
  | some k => exact (turnOf_lt h1).2
theorem rot_comp {a b : Nat} (h : Pair5 a b) (n : Int) {s t : Nat} (hs : s < 24) (ht : t < 24) : rotF a b n (namedF (compT s t)) = namedF (compT (rotF a b n s) t) := by
  have h1 : rotF a b n (namedF (compT s t)) = namedF (itM a b (n % 4).toNat (axT (namedF (compT s t)))) := rfl
  rw [h1, named_ax hs ht, compT_map s t, itM_map (sumV_neg (axT t)) h, compT_map (rotF a b n s) t, rot_ax h n hs]
theorem sumV_line (m : M3) (a h : V3) (n : Int) : sumV m (addV a (mulV n h)) = addV (sumV m a) (mulV n (sumV m h)) := by
  unfold sumV addV mulV
  simp only [Prod.mk.injEq]
  refine ⟨?_, ?_, ?_⟩ <;> grind
theorem addV_swap (a b c : V3) : addV (addV a b) c = addV (addV a c) b := by
  unfold addV
  simp only [Prod.mk.injEq]
  omega
theorem ahead_comp (n : Int) (c f : Fr) (hc0 : 0 ≤ c.1) (hc : c.1.toNat < 24) (hf : f.1.toNat < 24) : aheadF n (composeF c f) = composeF (aheadF n c) f := by
  unfold aheadF composeF imageF
  simp only [Int.toNat_natCast, named_ax hc hf, Prod.mk.injEq, true_and]
  rw [sumV_line, addV_swap]
  rfl
def compC (f : Fr) (c : Tur) : Tur := (composeF c.1 f, c.2)
def compL (f : Fr) (l : Ln) : Ln := ⟨imageF f l.fr, imageF f l.to, l.dep⟩
def compK (f : Fr) (m : Mk) : Mk := ⟨m.name, (composeF (m.turn, m.pl) f).1, (composeF (m.turn, m.pl) f).2⟩
def Sta.within (f : Fr) (s : Sta) : Sta := ⟨compC f s.cur, s.stk.map (compC f), s.lns.map (compL f), s.mks.map (compK f)⟩
theorem turn_comp {a b : Nat} (h : Pair5 a b) (n : Int) (f : Fr) {c : Tur} (hc : TurOk c) (hf : f.1.toNat < 24) : turnF a b n (compC f c) = compC f (turnF a b n c) := by
  unfold turnF compC composeF
  simp only [Int.toNat_natCast, rot_comp h n hc.lt hf]
theorem takeF_within {f : Fr} {s s1 s2 : Sta} {m : Mod} (hf : f.1.toNat < 24) (h : StaOk s) (h1 : takeF (0, 0) s m = some s1) (h2 : takeF (0, 0) (s.within f) m = some s2) : s2 = s1.within f := by
  have hah := ahead_comp (stepN m) s.cur.1 f h.cur.lo h.cur.lt hf
  have hcc : (s.within f).cur = (composeF s.cur.1 f, s.cur.2) := rfl
  have hbd : ∀ c : Tur, bendF (0, 0) c = c := fun c => by unfold bendF; rw [if_pos (.inl rfl)]
  have tc := fun a b (hp : Pair5 a b) (n : Int) => turn_comp hp n f h.cur hf
  unfold takeF at h1 h2
  split at h1
  · rename_i e
    rw [if_pos e] at h2
    split at h1
    · split at h1
      · cases h1
      · split at h2
        · split at h2
          · cases h2
          · injection h1 with h1
            injection h2 with h2
            subst h1 h2
            rw [hbd, hbd, hcc]
            simp only [hah]
            simp only [Sta.within, compC, compL, List.map_append, List.map_cons, List.map_nil, List.length_map]
            rfl
        · cases h2
    · cases h1
  rename_i e1
  rw [if_neg e1] at h2
  split at h1
  · rename_i e
    rw [if_pos e] at h2
    split at h1
    · split at h2
      · injection h1 with h1
        injection h2 with h2
        subst h1 h2
        rw [hcc]
        simp only [hah]
        rfl
      · cases h2
    · cases h1
  rename_i e2
  rw [if_neg e2] at h2
  split at h1
  · rename_i e; rw [if_pos e] at h2; injection h1 with h1; injection h2 with h2; subst h1 h2
    show (⟨turnF 0 1 _ (compC f s.cur), _, _, _⟩ : Sta) = _
    rw [tc _ _ (.inl ⟨rfl, rfl⟩)]; rfl
  rename_i e3
  rw [if_neg e3] at h2
  split at h1
  · rename_i e; rw [if_pos e] at h2; injection h1 with h1; injection h2 with h2; subst h1 h2
    show (⟨turnF 1 0 _ (compC f s.cur), _, _, _⟩ : Sta) = _
    rw [tc _ _ (.inr (.inl ⟨rfl, rfl⟩))]; rfl
  rename_i e4
  rw [if_neg e4] at h2
  split at h1
  · rename_i e; rw [if_pos e] at h2; injection h1 with h1; injection h2 with h2; subst h1 h2
    show (⟨turnF 0 2 _ (compC f s.cur), _, _, _⟩ : Sta) = _
    rw [tc _ _ (.inr (.inr (.inl ⟨rfl, rfl⟩)))]; rfl
  rename_i e5
  rw [if_neg e5] at h2
  split at h1
  · rename_i e; rw [if_pos e] at h2; injection h1 with h1; injection h2 with h2; subst h1 h2
    show (⟨turnF 2 0 _ (compC f s.cur), _, _, _⟩ : Sta) = _
    rw [tc _ _ (.inr (.inr (.inr (.inl ⟨rfl, rfl⟩))))]; rfl
  rename_i e6
  rw [if_neg e6] at h2
  split at h1
  · rename_i e; rw [if_pos e] at h2; injection h1 with h1; injection h2 with h2; subst h1 h2
    show (⟨turnF 1 2 _ (compC f s.cur), _, _, _⟩ : Sta) = _
    rw [tc _ _ (.inr (.inr (.inr (.inr ⟨rfl, rfl⟩))))]; rfl
  rename_i e7
  rw [if_neg e7] at h2
  split at h1
  · rename_i e; rw [if_pos e] at h2; injection h1 with h1; injection h2 with h2; subst h1 h2
    show (⟨turnF 0 1 _ (compC f s.cur), _, _, _⟩ : Sta) = _
    rw [tc _ _ (.inl ⟨rfl, rfl⟩)]; rfl
  rename_i e8
  rw [if_neg e8] at h2
  split at h1
  · rename_i e; rw [if_pos e] at h2; injection h1 with h1; injection h2 with h2; subst h1 h2
    simp only [Sta.within, List.map_append, List.map_cons, List.map_nil]
  rename_i e9
  rw [if_neg e9] at h2
  split at h1
  · rename_i e
    rw [if_pos e] at h2
    have e' : (s.within f).stk = s.stk.map (compC f) := rfl
    rw [e', List.getLast?_map] at h2
    split at h1
    · rename_i c hc
      rw [hc] at h2
      injection h1 with h1
      injection h2 with h2
      subst h1 h2
      simp only [Sta.within, List.map_dropLast]
    · cases h1
  · rename_i e
    rw [if_neg e] at h2
    injection h1 with h1
    injection h2 with h2
    subst h1 h2
    simp only [Sta.within, List.map_append, List.map_cons, List.map_nil, compK, compC]
theorem runF_within {f : Fr} (hf : f.1.toNat < 24) : ∀ {ms : List Mod} {s s1 s2 : Sta}, StaOk s → runF (0, 0) s ms = some s1 → runF (0, 0) (s.within f) ms = some s2 → s2 = s1.within f
  | [], s, s1, s2, _, h1, h2 => by
    injection h1 with h1
    injection h2 with h2
    subst h1 h2
    rfl
  | m :: ms, s, s1, s2, h, h1, h2 => by
    rw [runF] at h1 h2
    cases e1 : takeF (0, 0) s m with
    | none => rw [e1] at h1; cases h1
    | some t1 =>
      cases e2 : takeF (0, 0) (s.within f) m with
      | none => rw [e2] at h2; cases h2
      | some t2 =>
        rw [e1] at h1
        rw [e2] at h2
        have := takeF_within hf h e1 e2
        subst this
        exact runF_within hf (takeF_ok h ⟨by decide, by decide⟩ e1) h1 h2
theorem within_ok {f g : Fr} (h : (withinF f g).2 = 0) : (withinF f g).1 = composeF f g ∧ checkFr f = 0 ∧ checkFr g = 0 ∧ checkFr (composeF f g) = 0 := by
  unfold withinF at h ⊢
  by_cases h1 : checkFr f = 0
  · by_cases h2 : checkFr g = 0
    · by_cases h3 : checkFr (composeF f g) = 0
      · rw [if_pos h1, if_pos h2, if_pos h3]
        exact ⟨rfl, h1, h2, h3⟩
      · rw [if_pos h1, if_pos h2, if_neg h3] at h
        cases h
    · rw [if_pos h1, if_neg h2] at h
      exact absurd h h2
  · rw [if_neg h1] at h
    exact absurd h h1
theorem place_law {w : List Mod} {t : Tur} {f : Fr} (hw : checkF w = 0) (h : FitT t (0, 0)) (ht0 : 0 ≤ t.1.1) (hf : checkFr f = 0) (hf0 : 0 ≤ f.1) (h0 : (runT w t (0, 0)).2 = 0) (hg : (withinF t.1 f).2 = 0) :
    FitT ((withinF t.1 f).1, t.2) (0, 0) ∧ 0 ≤ (withinF t.1 f).1.1 ∧ ((placeT (runT w t (0, 0)).1 f).2 = 0 ∨ (placeT (runT w t (0, 0)).1 f).2 = 16) ∧
    ((runT w ((withinF t.1 f).1, t.2) (0, 0)).2 = 0 → (placeT (runT w t (0, 0)).1 f).2 = 0 →
      (placeT (runT w t (0, 0)).1 f).1 = (runT w ((withinF t.1 f).1, t.2) (0, 0)).1 ∧ lengthT (runT w t (0, 0)).1 = (sumA w, 0) ∧ lengthT (placeT (runT w t (0, 0)).1 f).1 = (sumA w, 0)) := by
  obtain ⟨w1, w2, w3, w4⟩ := within_ok hg
  obtain ⟨l1, l2, l3, l4⟩ := length_law hw h ht0 (by decide) h0
  have hft : FitT ((withinF t.1 f).1, t.2) (0, 0) := ⟨by rw [w1]; exact w4, h.2⟩
  have hlo : 0 ≤ (withinF t.1 f).1.1 := by rw [w1]; exact Int.natCast_nonneg _
  have hflt : f.1.toNat < 24 := by have := (checkFr_ok hf).1; omega
  refine ⟨hft, hlo, ?_, ?_⟩
  · unfold placeT
    rw [if_pos l4, if_pos hf]
    split
    · exact .inl rfl
    · exact .inr rfl
  intro h1 h2
  obtain ⟨s, hr, e⟩ := run_some hw h h0
  obtain ⟨s', hr', e'⟩ := run_some hw hft h1
  have hx : beginF ((withinF t.1 f).1, t.2) = (beginF t).within f := by rw [w1]; rfl
  have hok : StaOk (beginF t) := (fit_good h ht0).ok
  rw [hx] at hr'
  have hs := runF_within hflt hok hr hr'
  have hp : placeT (runT w t (0, 0)).1 f = ((runT w ((withinF t.1 f).1, t.2) (0, 0)).1, 0) := by
    unfold placeT at h2 ⊢
    rw [if_pos l4, if_pos hf] at h2 ⊢
    split at h2
    · rename_i hh
      rw [if_pos hh]
      obtain ⟨p1, p2, p3⟩ := hh
      rw [e, e', hs] at *
      have q3 := (within_ok p3).1
      have q2 : s.mks.map (plM f) = s.mks.map (compK f) := List.map_congr_left fun m hm => by
        have := List.all_eq_true.1 p2 m hm
        unfold okM at this
        have := (within_ok (by simpa using this)).1
        unfold plM compK
        rw [this]
      show ((⟨s.lns.map (plL f), s.mks.map (plM f), (withinF s.cur.1 f).1, s.cur.2⟩ : Trk), (0 : Int)) = _
      rw [q2, show (withinF s.cur.1 f).1 = composeF s.cur.1 f from q3]
      rfl
    · cases h2
  obtain ⟨m1, m2, m3, m4⟩ := length_law hw hft hlo (by decide) h1
  rw [hp]
  exact ⟨rfl, l1, m1⟩
end Go.Proofs.YtldccpmnboebmaaDoor
