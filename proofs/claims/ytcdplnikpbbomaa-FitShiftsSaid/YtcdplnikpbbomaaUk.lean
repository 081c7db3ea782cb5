/-
  A row of forms that the call itself made: one form's constant is written. The rest of a slice. No program's function is named here.
-/
import Derived.Test.YtcdplnikpbbomaaRep
import Derived.Test.YtcdplnikpbbomaaOwn
import Derived.Test.YtcdplnikpbbomaaLi
namespace Go.Proofs.Ytcdplnikpbbomaa
open Go.RowKit
set_option linter.unusedVariables false

structure FrmCell (G : Nat → Prop) (w : World) (g : Nat) (cur : Array Value) (i : Nat) (x : Frm) (A : Option Addr) (c : Nat) : Prop where
  c0 : cur[i * 2]? = some (.int .i64 x.const)
  c1 : cur[i * 2 + 1]? = some (.slice A x.coefs.length c)
  ft : Fits .i64 x.const
  sl : SlAt (pI .i64) (fun k => G k ∧ k < w.heap.size ∧ k ≠ g) w A c x.coefs
def FrmRow (G : Nat → Prop) (w : World) (g : Nat) (t : TypeId) (xs : List Frm) : Prop :=
  ∃ cur : Array Value, Blk w g t cur ∧ ∀ i x, xs[i]? = some x → ∃ A c, FrmCell G w g cur i x A c
theorem FrmRow.keep {G : Nat → Prop} {w w' : World} {g : Nat} {t : TypeId} {xs : List Frm} (h : FrmRow G w g t xs) (hs : w.heap.size ≤ w'.heap.size) (hk : ∀ k, k < w.heap.size → (G k ∨ k = g) → w'.heap[k]? = w.heap[k]?) : FrmRow G w' g t xs := by
  obtain ⟨cur, h1, h2⟩ := h
  refine ⟨cur, h1.same (hk g h1.lt (.inr rfl)), fun i x hx => ?_⟩
  obtain ⟨A, c, h3⟩ := h2 i x hx
  exact ⟨A, c, h3.c0, h3.c1, h3.ft, (h3.sl.keep fun k hk' => hk k hk'.2.1 (.inl hk'.1)).wide fun k hk' => ⟨hk'.1, by omega, hk'.2.2⟩⟩
theorem FrmRow.set {G : Nat → Prop} {w : World} {g : Nat} {t : TypeId} {xs : List Frm} (h : FrmRow G w g t xs) {i : Nat} {x : Frm} (hx : xs[i]? = some x) {v : Int} (hv : Fits .i64 v) :
    FrmRow G (w.setCell ⟨g, i * 2, none⟩ (.int .i64 v)) g t (xs.set i { x with const := v }) := by
  obtain ⟨cur, h1, h2⟩ := h
  have hsz : (w.setCell ⟨g, i * 2, none⟩ (.int .i64 v)).heap.size = w.heap.size := by simp [World.setCell]
  refine ⟨_, h1.set (i * 2) (.int .i64 v), fun j y hy => ?_⟩
  have hil : i < xs.length := (List.getElem?_eq_some_iff.1 hx).1
  have hsame : ∀ k, k ≠ g → (w.setCell ⟨g, i * 2, none⟩ (.int .i64 v)).heap[k]? = w.heap[k]? := fun k hk => by
    simp [World.setCell, Array.getElem?_modify, Ne.symm hk]
  have hsl : ∀ {A : Option Addr} {c : Nat} {l : List Int}, SlAt (pI .i64) (fun k => G k ∧ k < w.heap.size ∧ k ≠ g) w A c l → SlAt (pI .i64) (fun k => G k ∧ k < (w.setCell ⟨g, i * 2, none⟩ (.int .i64 v)).heap.size ∧ k ≠ g) (w.setCell ⟨g, i * 2, none⟩ (.int .i64 v)) A c l := fun h =>
    (h.keep fun k hk => hsame k hk.2.2).wide fun k hk => ⟨hk.1, by rw [hsz]; exact hk.2.1, hk.2.2⟩
  by_cases hij : j = i
  · subst hij
    rw [List.getElem?_set_self hil] at hy
    cases hy
    obtain ⟨A, c, h3⟩ := h2 j x hx
    have hlt : j * 2 < cur.size := (Array.getElem?_eq_some_iff.1 h3.c0).1
    refine ⟨A, c, ?_, ?_, hv, hsl h3.sl⟩
    · rw [Array.getElem?_setIfInBounds_self_of_lt hlt]
    · rw [Array.getElem?_setIfInBounds_ne (by omega)]; exact h3.c1
  · rw [List.getElem?_set_ne (fun e => hij e.symm)] at hy
    obtain ⟨A, c, h3⟩ := h2 j y hy
    refine ⟨A, c, ?_, ?_, h3.ft, hsl h3.sl⟩
    · rw [Array.getElem?_setIfInBounds_ne (by omega)]; exact h3.c0
    · rw [Array.getElem?_setIfInBounds_ne (by omega)]; exact h3.c1
theorem FrmRow.sl {G : Nat → Prop} {w : World} {g : Nat} {t : TypeId} {xs : List Frm} (h : FrmRow G w g t xs) {c : Nat} (h1 : xs.length ≤ c) (h2 : c ≤ maxLen) : SlAt pFrm (Old w) w (some ⟨g, 0, none⟩) c xs := by
  obtain ⟨cur, k1, k2⟩ := h
  refine ⟨h1, h2, (fun e => by cases e), fun i x hx => ?_⟩
  obtain ⟨A, c', h3⟩ := k2 i x hx
  refine ⟨g, 0, _, rfl, k1.lt, ⟨A, c', rfl, h3.ft, h3.sl.wide fun k hk => hk.2.1⟩, fun j v hv => ?_⟩
  rw [k1.cell]
  match j, hv with
  | 0, hv => simp at hv; subst hv; simpa [pFrm] using h3.c0
  | 1, hv => simp at hv; subst hv; simpa [pFrm] using h3.c1
theorem Own.frm {base : Nat} {G : Nat → Prop} {w : World} {t : TypeId} {A : Option Addr} {n c : Nat} {xs : List Frm} (h : Own pFrm t base G w (.slice A n c) xs) (hne : xs ≠ []) : ∃ g, A = some ⟨g, 0, none⟩ ∧ base ≤ g ∧ xs.length = n ∧ n ≤ c ∧ c ≤ maxLen ∧ FrmRow G w g t xs := by
  obtain ⟨cells, ⟨h1, h2⟩, h3⟩ := h
  rcases h2 with ⟨hv, h0⟩ | ⟨g, cap, cur, hv, hb, hg, hnc, hcm, hsz, htake⟩
  · exact absurd (List.eq_nil_of_length_eq_zero h0) hne
  · cases hv
    refine ⟨g, rfl, hb, rfl, hnc, hcm, cur, hg, fun i x hx => ?_⟩
    obtain ⟨cs, ⟨A', c', rfl, h4, h5⟩, h6⟩ := h3.get hx
    have hcur : ∀ j v, cells[j]? = some v → cur[j]? = some v := fun j v hj => by
      rw [← htake, List.getElem?_take] at hj
      split at hj
      · simpa using hj
      · cases hj
    refine ⟨A', c', hcur _ _ (by have := h6 0 _ rfl; simpa [pFrm] using this), hcur _ _ (by have := h6 1 _ rfl; simpa [pFrm] using this), h4, h5.wide fun k hk => ⟨hk.1, hk.2.1, fun e => hk.2.2 (by rw [e]; rfl)⟩⟩
theorem sl_drop {α : Type} {E : Rp α} {F : Nat → Prop} {w : World} {b o cap : Nat} {xs : List α} (h : SlAt E F w (some ⟨b, o, none⟩) cap xs) {i : Nat} (hi : i ≤ xs.length) : SlAt E F w (some ⟨b, o + i * E.n, none⟩) (cap - i) (xs.drop i) := by
  refine ⟨by rw [List.length_drop]; have := h.le; omega, by have := h.mx; omega, (fun e => by cases e), fun j x hx => ?_⟩
  rw [List.getElem?_drop] at hx
  obtain ⟨b', o', cs, h1, h2, h3, h4⟩ := h.el (i + j) x hx
  cases h1
  refine ⟨b, o + i * E.n, cs, rfl, h2, h3, fun q c hq => ?_⟩
  have := h4 q c hq
  rwa [Nat.add_mul, show o + (i * E.n + j * E.n) + q = o + i * E.n + j * E.n + q from by omega] at this
theorem sl_nil_at {α : Type} {E : Rp α} {F : Nat → Prop} {w : World} {A : Option Addr} {cap : Nat} (h1 : cap ≤ maxLen) (h2 : A = none → cap = 0) : SlAt E F w A cap ([] : List α) := ⟨Nat.zero_le _, h1, h2, fun i x hx => by simp at hx⟩
end Go.Proofs.Ytcdplnikpbbomaa
