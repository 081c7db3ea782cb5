/-
  Layer 42, plain: what the two maps of infer.best hold after k rounds.
-/
import Derived.Test.YtckffdaomjbglaaDoorIl
namespace Go.Proofs.YtckffdaomjbglaaDoor
open Go.RowKit Go.Maps
set_option linter.unusedVariables false

/-- a map that reads as f -/
def MapIs {H : Type} (D : DataW H) (f : Int → Int → Option Int) : Prop :=
  IsMap D ∧ ∀ a b, Fits .u8 a → Fits .u8 b → match f a b with
    | none => Maps.has D (prL a b) = false
    | some c => Maps.has D (prL a b) = true ∧ ∀ zd, D.atKey (prL a b) zd = .lit (.int .i64 c)
def setF (f : Int → Int → Option Int) (a b c : Int) : Int → Int → Option Int := fun u v => if u = a ∧ v = b then some c else f u v
theorem setF_same (f : Int → Int → Option Int) (a b c : Int) : setF f a b c a b = some c := by simp [setF]
theorem setF_other {f : Int → Int → Option Int} {a b c u v : Int} (h : ¬ (u = a ∧ v = b)) : setF f a b c u v = f u v := by unfold setF; rw [if_neg h]
theorem MapIs.empty {H : Type} : MapIs (.map [] : DataW H) (fun _ _ => none) := ⟨isMap_empty, fun a b _ _ => rfl⟩
theorem MapIs.put {H : Type} {D : DataW H} {f : Int → Int → Option Int} (h : MapIs D f) {a b : Int} (ha : Fits .u8 a) (hb : Fits .u8 b) (c : Int) : MapIs (D.put (prL a b) (.lit (.int .i64 c))) (setF f a b c) := by
  have hk := pair_keyed.key (pair_key ha hb)
  refine ⟨h.1.put _ _, fun u v hu hv => ?_⟩
  by_cases he : u = a ∧ v = b
  · obtain ⟨rfl, rfl⟩ := he
    rw [setF_same]
    exact ⟨has_put_same h.1 hk _, fun zd => atKey_put_same h.1 hk _ zd⟩
  · rw [setF_other he]
    have hne : prL u v ≠ prL a b := fun e => he (prL_inj hu hv ha hb e)
    have := h.2 u v hu hv
    cases hf : f u v with
    | none => rw [hf] at this; simp only at this ⊢; rw [has_put_other hne]; exact this
    | some c' =>
      rw [hf] at this
      simp only at this ⊢
      exact ⟨by rw [has_put_other hne]; exact this.1, fun zd => by rw [atKey_put_other hne]; exact this.2 zd⟩
theorem MapIs.get {H : Type} {D : DataW H} {f : Int → Int → Option Int} (h : MapIs D f) {a b c : Int} (ha : Fits .u8 a) (hb : Fits .u8 b) (hc : D.atKey (prL a b) (.lit (.int .i64 0)) = .lit (.int .i64 c)) : c = (f a b).getD 0 ∧ Maps.has D (prL a b) = (f a b).isSome := by
  have := h.2 a b ha hb
  cases hf : f a b with
  | none =>
    rw [hf] at this
    simp only at this
    rw [atKey_of_not_has this] at hc
    refine ⟨?_, this⟩
    simpa using hc.symm
  | some c' =>
    rw [hf] at this
    simp only at this
    rw [this.2] at hc
    refine ⟨?_, this.1⟩
    simpa using hc.symm

structure CntAt (l : List Int) (k : Nat) (cf lf : Int → Int → Option Int) : Prop where
  cnt : ∀ a b, plainC a = true → plainC b = true → (cf a b).getD 0 + cntP a b (decide (lf a b = some ((k : Int) - 1))) (l.drop k) = cntR a b l
  last : ∀ a b j, lf a b = some j → 0 ≤ j ∧ j < k
  both : ∀ a b, (lf a b).isSome = (cf a b).isSome
  has : ∀ a b, (cf a b).isSome = true ↔ PairAt l k a b
  pos : ∀ a b c, cf a b = some c → 0 < c ∧ c ≤ k
theorem CntAt.zero (l : List Int) : CntAt l 0 (fun _ _ => none) (fun _ _ => none) where
  cnt a b _ _ := by simp [cntP_eq]
  last a b j h := by cases h
  both a b := rfl
  has a b := by simp [pairAt_zero]
  pos a b c h := by cases h
theorem drop_two {l : List Int} {k : Nat} {x y : Int} (h1 : l[k]? = some x) (h2 : l[k + 1]? = some y) : l.drop k = x :: y :: l.drop (k + 2) ∧ l.drop (k + 1) = y :: l.drop (k + 2) := by
  obtain ⟨a1, b1⟩ := List.getElem?_eq_some_iff.1 h1
  obtain ⟨a2, b2⟩ := List.getElem?_eq_some_iff.1 h2
  rw [List.drop_eq_getElem_cons a1, b1, List.drop_eq_getElem_cons a2, b2]
  exact ⟨rfl, rfl⟩
section
variable {l : List Int} {k : Nat} {cf lf : Int → Int → Option Int} {x y : Int}
theorem CntAt.flag (h : CntAt l k cf lf) (a b : Int) : decide (lf a b = some (((k + 1 : Nat) : Int) - 1)) = false := by
  refine decide_eq_false fun e => ?_
  have := h.last a b _ e
  omega
/-- the pair at k is another one, or none that counts -/
theorem CntAt.away (h : CntAt l k cf lf) (h1 : l[k]? = some x) (h2 : l[k + 1]? = some y) {a b : Int} (ha : plainC a = true) (hb : plainC b = true) (hne : ¬ (x = a ∧ y = b)) : (cf a b).getD 0 + cntP a b false (l.drop (k + 1)) = cntR a b l := by
  have h3 := h.cnt a b ha hb
  rw [(drop_two h1 h2).1, cntP_two, if_neg hne, ← (drop_two h1 h2).2] at h3
  exact h3
theorem CntAt.skip (h : CntAt l k cf lf) (h1 : l[k]? = some x) (h2 : l[k + 1]? = some y) (hp : plainC x = false ∨ plainC y = false) : CntAt l (k + 1) cf lf where
  cnt a b ha hb := by
    rw [h.flag]
    refine h.away h1 h2 ha hb ?_
    rintro ⟨rfl, rfl⟩
    rcases hp with hp | hp
    · rw [hp] at ha; cases ha
    · rw [hp] at hb; cases hb
  last a b j e := by have := h.last a b j e; omega
  both := h.both
  has a b := (h.has a b).trans (pairAt_no h1 h2 hp a b)
  pos a b c e := by have := h.pos a b c e; omega
theorem CntAt.again (h : CntAt l k cf lf) (h1 : l[k]? = some x) (h2 : l[k + 1]? = some y) (hx : plainC x = true) (hy : plainC y = true) (hl : lf x y = some ((k : Int) - 1)) (he : x = y) : CntAt l (k + 1) cf lf where
  cnt a b ha hb := by
    rw [h.flag]
    by_cases hne : x = a ∧ y = b
    · obtain ⟨rfl, rfl⟩ := hne
      have h3 := h.cnt x y ha hb
      rw [(drop_two h1 h2).1, cntP_two, if_pos ⟨rfl, rfl⟩, if_pos ⟨he, decide_eq_true hl⟩, ← (drop_two h1 h2).2] at h3
      exact h3
    · exact h.away h1 h2 ha hb hne
  last a b j e := by have := h.last a b j e; omega
  both := h.both
  has a b := by
    rw [← pairAt_yes h1 h2 hx hy a b, h.has a b]
    refine ⟨.inl, fun hh => ?_⟩
    rcases hh with hh | ⟨rfl, rfl⟩
    · exact hh
    · rw [← h.has, ← h.both, hl]; rfl
  pos a b c e := by have := h.pos a b c e; omega
theorem CntAt.count (h : CntAt l k cf lf) (h1 : l[k]? = some x) (h2 : l[k + 1]? = some y) (hx : plainC x = true) (hy : plainC y = true) (hn : ¬ (lf x y = some ((k : Int) - 1) ∧ x = y)) : CntAt l (k + 1) (setF cf x y ((cf x y).getD 0 + 1)) (setF lf x y k) where
  cnt a b ha hb := by
    by_cases hne : x = a ∧ y = b
    · obtain ⟨rfl, rfl⟩ := hne
      have h3 := h.cnt x y ha hb
      rw [(drop_two h1 h2).1, cntP_two, if_pos ⟨rfl, rfl⟩, if_neg (fun e => hn ⟨of_decide_eq_true e.2, e.1⟩), ← (drop_two h1 h2).2] at h3
      rw [setF_same, setF_same, decide_eq_true (by congr 1; omega)]
      simp only [Option.getD_some]
      omega
    · have hne' : ¬ (a = x ∧ b = y) := fun e => hne ⟨e.1.symm, e.2.symm⟩
      rw [setF_other hne', setF_other hne', h.flag]
      exact h.away h1 h2 ha hb hne
  last a b j e := by
    by_cases hne : a = x ∧ b = y
    · obtain ⟨rfl, rfl⟩ := hne
      rw [setF_same] at e
      cases e
      omega
    · rw [setF_other hne] at e
      have := h.last a b j e; omega
  both a b := by
    by_cases hne : a = x ∧ b = y
    · obtain ⟨rfl, rfl⟩ := hne
      rw [setF_same, setF_same]; rfl
    · rw [setF_other hne, setF_other hne]; exact h.both a b
  has a b := by
    rw [← pairAt_yes h1 h2 hx hy a b]
    by_cases hne : a = x ∧ b = y
    · obtain ⟨rfl, rfl⟩ := hne
      rw [setF_same]
      exact ⟨fun _ => .inr ⟨rfl, rfl⟩, fun _ => rfl⟩
    · rw [setF_other hne, h.has a b]
      exact ⟨.inl, fun hh => hh.elim id fun e => absurd e hne⟩
  pos a b c e := by
    by_cases hne : a = x ∧ b = y
    · obtain ⟨rfl, rfl⟩ := hne
      rw [setF_same] at e
      cases e
      cases hf : cf a b with
      | none => simp; omega
      | some c => have := h.pos a b c hf; simp; omega
    · rw [setF_other hne] at e
      have := h.pos a b c e; omega
/-- behind the last round -/
theorem CntAt.done (h : CntAt l k cf lf) (hk : k ≤ l.length) (he : l.length ≤ k + 1) (a b : Int) : ((cf a b).isSome = true ↔ PairAt l l.length a b) ∧ ∀ c, cf a b = some c → c = cntR a b l := by
  refine ⟨(h.has a b).trans (pairAt_end he hk a b), fun c hc => ?_⟩
  have hp := (h.has a b).1 (by rw [hc]; rfl)
  obtain ⟨_, _, _, _, ha, hb⟩ := hp
  have h3 := h.cnt a b ha hb
  rw [hc] at h3
  have : ∀ f, cntP a b f (l.drop k) = 0 := fun f => by
    have hl : (l.drop k).length ≤ 1 := by rw [List.length_drop]; omega
    match hd : l.drop k, hl with
    | [], _ => simp [cntP]
    | [z], _ => rw [cntP_one]
  rw [this] at h3
  simp at h3
  exact h3
end
/-- the pairs that have come -/
def Come (l : List Int) (left : Lit → Bool) (u v : Int) : Prop := PairAt l l.length u v ∧ left (prL u v) = false
theorem pairAt_fits {l : List Int} (hl : ∀ x ∈ l, Fits .u8 x) {n : Nat} {u v : Int} (h : PairAt l n u v) : Fits .u8 u ∧ Fits .u8 v := by
  obtain ⟨i, _, h1, h2, _⟩ := h
  exact ⟨hl _ (List.mem_of_getElem? h1), hl _ (List.mem_of_getElem? h2)⟩
theorem come_more {l : List Int} (hl : ∀ x ∈ l, Fits .u8 x) {left : Lit → Bool} {x y : Int} (hp : PairAt l l.length x y) (u v : Int) :
    (Come l left u v ∨ (u = x ∧ v = y)) ↔ Come l (fun z => left z && !z.sameKey (prL x y)) u v := by
  have hf := pairAt_fits hl hp
  constructor
  · rintro (⟨h1, h2⟩ | ⟨rfl, rfl⟩)
    · exact ⟨h1, by simp [h2]⟩
    · exact ⟨hp, by simp [WideAt.sameKey_self (pair_keyed.key (pair_key hf.1 hf.2))]⟩
  · rintro ⟨h1, h2⟩
    have hf' := pairAt_fits hl h1
    simp only [Bool.and_eq_false_iff, Bool.not_eq_false'] at h2
    rcases h2 with h2 | h2
    · exact .inl ⟨h1, h2⟩
    · exact .inr (prL_inj hf'.1 hf'.2 hf.1 hf.2 (WideAt.sameKey_eq h2))
end Go.Proofs.YtckffdaomjbglaaDoor
