/-
  Several texts in one.
-/
import Derived.WalkKit
import Derived.WalkSpells
import Derived.WalkLawsBesides
import Derived.ProofKit
import Derived.Lib.Hide
import Derived.Deep.Slices
import Derived.Deep.Draws
import Derived.ShutString
import Derived.ChangeOld
import Derived.Maps.AppendAt
import Derived.Deep.AppendLies
import Derived.Deep.OwnRows
import Derived.Test.YtckffdaomjbglaaDoorProg
import Derived.Deep.QuietTactic
import Derived.BigQuiet
import Derived.Lib.QuietBelow
import Derived.Lib.Bytealg
import Derived.Lib.Walk
import Derived.IntWalk
import Derived.StillTailTactics
import Derived.Deep.RegionHeld3
import Derived.Deep.Cut
/-! Base -/
namespace Go.Proofs.YtckffdaomjbglaaDoor
open Go.RowKit

/-- How a datum of type α lies in cells: n cells; F: the blocks that the reading may pass through. -/
structure Rp (α : Type) where
  n : Nat
  R : (Nat → Prop) → World → List Value → α → Prop
  len : ∀ {F w cs x}, R F w cs x → cs.length = n
  keep : ∀ {F : Nat → Prop} {w w' : World} {cs x}, R F w cs x → (∀ k, F k → w'.heap[k]? = w.heap[k]?) → R F w' cs x
  wide : ∀ {F F' : Nat → Prop} {w cs x}, R F w cs x → (∀ k, F k → F' k) → R F' w cs x
  one : ∀ {F w cs x}, R F w cs x → ∀ v ∈ cs, v.oneCell' = true

theorem cell_keep {w w' : World} {b o : Nat} (h : w'.heap[b]? = w.heap[b]?) : w'.cell? ⟨b, o, none⟩ = w.cell? ⟨b, o, none⟩ :=
  World.cell?_of_block (w := w) (a := ⟨b, o, none⟩) h

theorem add_lit' (b o n : Nat) : (⟨b, o, none⟩ : Addr).add n = ⟨b, o + n, none⟩ := Addr.add_lit b o n

/-- A slice over elements that lie by E (its length is that of the list). -/
structure SlAt {α : Type} (E : Rp α) (F : Nat → Prop) (w : World) (A : Option Addr) (cap : Nat) (xs : List α) : Prop where
  le : xs.length ≤ cap
  mx : cap ≤ maxLen
  nil : A = none → cap = 0
  el : ∀ i x, xs[i]? = some x → ∃ b o cs, A = some ⟨b, o, none⟩ ∧ F b ∧ E.R F w cs x ∧ ∀ j c, cs[j]? = some c → w.cell? ⟨b, o + i * E.n + j, none⟩ = some c

section
variable {α : Type} {E : Rp α} {F F' : Nat → Prop} {w w' : World} {A : Option Addr} {cap : Nat} {xs : List α}
theorem SlAt.keep (h : SlAt E F w A cap xs) (k : ∀ k, F k → w'.heap[k]? = w.heap[k]?) : SlAt E F w' A cap xs :=
  ⟨h.le, h.mx, h.nil, fun i x hx => by
    obtain ⟨b, o, cs, h1, h2, h3, h4⟩ := h.el i x hx
    exact ⟨b, o, cs, h1, h2, E.keep h3 k, fun j c hc => by rw [cell_keep (k b h2)]; exact h4 j c hc⟩⟩
theorem SlAt.wide (h : SlAt E F w A cap xs) (k : ∀ k, F k → F' k) : SlAt E F' w A cap xs :=
  ⟨h.le, h.mx, h.nil, fun i x hx => by
    obtain ⟨b, o, cs, h1, h2, h3, h4⟩ := h.el i x hx
    exact ⟨b, o, cs, h1, k b h2, E.wide h3 k, h4⟩⟩
theorem SlAt.lenle (h : SlAt E F w A cap xs) : xs.length ≤ 9223372036854775807 ∧ xs.length ≤ cap := ⟨by have := h.le; have := h.mx; unfold maxLen at *; omega, h.le⟩
end

/-- a slice, as a datum of one cell -/
def pSl {α : Type} (E : Rp α) : Rp (List α) where
  n := 1
  R F w cs xs := ∃ A cap, cs = [.slice A xs.length cap] ∧ SlAt E F w A cap xs
  len := by rintro F w cs x ⟨A, c, rfl, _⟩; rfl
  keep := by rintro F w w' cs x ⟨A, c, rfl, h⟩ k; exact ⟨A, c, rfl, h.keep k⟩
  wide := by rintro F F' w cs x ⟨A, c, rfl, h⟩ k; exact ⟨A, c, rfl, h.wide k⟩
  one := by rintro F w cs x ⟨A, c, rfl, _⟩ v hv; simp at hv; subst hv; rfl

/-- does a number fit its kind? -/
def Fits (k : IntKind) (n : Int) : Prop := (Lit.int k n).wf = true

def pI (k : IntKind) : Rp Int where
  n := 1
  R _ _ cs x := cs = [.int k x] ∧ Fits k x
  len := by rintro F w cs x ⟨rfl, _⟩; rfl
  keep := by rintro F w w' cs x h _; exact h
  wide := by rintro F F' w cs x h _; exact h
  one := by rintro F w cs x ⟨rfl, _⟩ v hv; simp at hv; subst hv; rfl

theorem pI_flat (k : IntKind) : ∀ (F F' : Nat → Prop) (w : World) cs x, (pI k).R F w cs x → (pI k).R F' w cs x := fun _ _ _ _ _ h => h
def pB : Rp Bool where
  n := 1
  R _ _ cs x := cs = [.bool x]
  len := by rintro F w cs x rfl; rfl
  keep := by rintro F w w' cs x h _; exact h
  wide := by rintro F F' w cs x h _; exact h
  one := by rintro F w cs x rfl v hv; simp at hv; subst hv; rfl

theorem Fits.i64 {n : Int} (h : Fits .i64 n) : -9223372036854775808 ≤ n ∧ n ≤ 9223372036854775807 := by
  simpa [Fits, Lit.wf, IntKind.min, IntKind.max, IntKind.signed, IntKind.bits] using h
theorem Fits.u8 {n : Int} (h : Fits .u8 n) : 0 ≤ n ∧ n ≤ 255 := by
  simpa [Fits, Lit.wf, IntKind.min, IntKind.max, IntKind.signed, IntKind.bits] using h
theorem fits_i64 {n : Int} (h : -9223372036854775808 ≤ n ∧ n ≤ 9223372036854775807) : Fits .i64 n := WalkArith.wf_i64 h
theorem fits_u8 {n : Int} (h : 0 ≤ n ∧ n ≤ 255) : Fits .u8 n := WalkArith.wf_u8 h

theorem below_drewN {B : Nat} {a w : World} (h : Below B a w) (n : Nat) : Below B a (w.drewN n) := ⟨h.os, h.tape, h.output, h.size, h.block⟩
/-- the blocks that were there in w -/
def Old (w : World) : Nat → Prop := fun k => k < w.heap.size

theorem drop_cons {α : Type} {xs : List α} {i : Nat} {x : α} (h : xs[i]? = some x) : xs.drop i = x :: xs.drop (i + 1) := by
  obtain ⟨hi, rfl⟩ := List.getElem?_eq_some_iff.1 h
  exact List.drop_eq_getElem_cons hi
theorem get_of_drop {α : Type} {xs : List α} {i : Nat} {x : α} {r : List α} (h : xs.drop i = x :: r) : xs[i]? = some x := by
  have := congrArg (fun l => l[0]?) h
  simpa using this
theorem mem_of_drop {α : Type} {xs : List α} {i : Nat} {x : α} {r : List α} (h : xs.drop i = x :: r) : x ∈ xs := List.mem_of_getElem? (get_of_drop h)
theorem take_of_drop {α : Type} {xs : List α} {i : Nat} {x : α} {r : List α} (h : xs.drop i = x :: r) : xs.take (i + 1) = xs.take i ++ [x] := by
  rw [List.take_add_one, get_of_drop h]; rfl
theorem drop_end {α : Type} {xs : List α} {i : Nat} (h : ¬ i < xs.length) : xs.drop i = [] := List.drop_eq_nil_of_le (by omega)

section
variable {α : Type} {E : Rp α} {F F' : Nat → Prop} {w w' : World} {A : Option Addr} {cap : Nat} {xs : List α}
theorem SlAt.below (h : SlAt E (Old w) w A cap xs) (hb : Below w.heap.size w w') : SlAt E (Old w) w' A cap xs := h.keep fun k hk => hb.block k hk
theorem SlAt.later (h : SlAt E (Old w) w A cap xs) (hb : Below w.heap.size w w') : SlAt E (Old w') w' A cap xs :=
  (h.below hb).wide fun k hk => by have := hb.size; unfold Old at *; omega
theorem SlAt.get (h : SlAt E F w A cap xs) {i : Nat} (hi : i < xs.length) : ∃ b o cs x, Hid (xs.drop i = x :: xs.drop (i + 1)) ∧ A = some ⟨b, o, none⟩ ∧ F b ∧ E.R F w cs x ∧ ∀ j c, cs[j]? = some c → w.cell? ⟨b, o + i * E.n + j, none⟩ = some c := by
  have hx : xs[i]? = some xs[i] := List.getElem?_eq_getElem hi
  obtain ⟨b, o, cs, h1, h2, h3, h4⟩ := h.el i _ hx
  exact ⟨b, o, cs, _, drop_cons hx, h1, h2, h3, h4⟩
/-- an element of one cell that is a slice -/
theorem SlAt.getSl {xs : List (List α)} (h : SlAt (pSl E) F w A cap xs) {i : Nat} (hi : i < xs.length) :
    ∃ b o A' c' x, Hid (xs.drop i = x :: xs.drop (i + 1)) ∧ A = some ⟨b, o, none⟩ ∧ F b ∧ w.cell? ⟨b, o + i, none⟩ = some (.slice A' x.length c') ∧ Hid (SlAt E F w A' c' x) ∧ x.length ≤ 9223372036854775807 := by
  obtain ⟨b, o, cs, x, h0, h1, h2, ⟨A', c', rfl, h3⟩, h4⟩ := h.get hi
  exact ⟨b, o, A', c', x, h0, h1, h2, by simpa [pSl] using h4 0 _ rfl, h3, h3.lenle.1⟩
theorem SlAt.getI {k : IntKind} {xs : List Int} (h : SlAt (pI k) F w A cap xs) {i : Nat} (hi : i < xs.length) :
    ∃ b o x, Hid (xs.drop i = x :: xs.drop (i + 1)) ∧ A = some ⟨b, o, none⟩ ∧ F b ∧ w.cell? ⟨b, o + i, none⟩ = some (.int k x) ∧ Fits k x := by
  obtain ⟨b, o, cs, x, h0, h1, h2, ⟨rfl, h3⟩, h4⟩ := h.get hi
  exact ⟨b, o, x, h0, h1, h2, by simpa [pI] using h4 0 _ rfl, h3⟩
theorem SlAt.fits {k : IntKind} {xs : List Int} (h : SlAt (pI k) F w A cap xs) : ∀ x ∈ xs, Fits k x := by
  intro x hx
  obtain ⟨i, hi, hxi⟩ := List.mem_iff_getElem.1 hx
  obtain ⟨_, _, y, hd, _, _, _, hf⟩ := h.getI hi
  have := get_of_drop hd.out
  rw [List.getElem?_eq_getElem hi, hxi] at this
  cases this
  exact hf
end

/-! ### a block that is known whole -/
def Blk (w : World) (g : Nat) (t : TypeId) (cs : Array Value) : Prop := w.heap[g]? = some (.cells cs t (0, 0))
section
variable {w w' : World} {g : Nat} {t : TypeId} {cs : Array Value}
theorem Blk.lt (h : Blk w g t cs) : g < w.heap.size := (Array.getElem?_eq_some_iff.1 h).1
theorem Blk.cell (h : Blk w g t cs) (i : Nat) : w.cell? ⟨g, i, none⟩ = cs[i]? := cell_of_row w g i cs t (0, 0) h
theorem Blk.free (h : Blk w g t cs) (i : Nat) : w.frozen? ⟨g, i, none⟩ = false := by
  unfold Blk at h; simp [World.frozen?, h]
theorem Blk.new (w : World) (t : TypeId) (cs : Array Value) : Blk (w.alloc (.cells cs t)) w.heap.size t cs := heap_alloc_new w _
theorem Blk.set (h : Blk w g t cs) (i : Nat) (u : Value) : Blk (w.setCell ⟨g, i, none⟩ u) g t (cs.setIfInBounds i u) := by
  unfold Blk at h ⊢; simp [World.setCell, Array.getElem?_modify, h]
theorem Blk.same (h : Blk w g t cs) (e : w'.heap[g]? = w.heap[g]?) : Blk w' g t cs := e.trans h
theorem Blk.alloc (h : Blk w g t cs) (o : Obj) : Blk (w.alloc o) g t cs := (Below.heap_alloc w o g h.lt).trans h
end

/-! ### a list of data in a row of cells -/
def CellsAre {α : Type} (E : Rp α) (F : Nat → Prop) (w : World) : List Value → List α → Prop
  | cells, [] => cells = []
  | cells, x :: xs => ∃ cs rest, cells = cs ++ rest ∧ E.R F w cs x ∧ CellsAre E F w rest xs
section
variable {α : Type} {E : Rp α} {F F' : Nat → Prop} {w w' : World}
theorem CellsAre.keep (k : ∀ k, F k → w'.heap[k]? = w.heap[k]?) : ∀ {xs : List α} {cells}, CellsAre E F w cells xs → CellsAre E F w' cells xs
  | [], _, h => h
  | _ :: _, _, ⟨cs, rest, h1, h2, h3⟩ => ⟨cs, rest, h1, E.keep h2 k, CellsAre.keep k h3⟩
theorem CellsAre.wide (k : ∀ k, F k → F' k) : ∀ {xs : List α} {cells}, CellsAre E F w cells xs → CellsAre E F' w cells xs
  | [], _, h => h
  | _ :: _, _, ⟨cs, rest, h1, h2, h3⟩ => ⟨cs, rest, h1, E.wide h2 k, CellsAre.wide k h3⟩
theorem CellsAre.append : ∀ {xs ys : List α} {c d}, CellsAre E F w c xs → CellsAre E F w d ys → CellsAre E F w (c ++ d) (xs ++ ys)
  | [], _, _, _, h, h' => by cases h; exact h'
  | _ :: _, _, _, _, ⟨cs, rest, h1, h2, h3⟩, h' => ⟨cs, rest ++ _, by rw [h1, List.append_assoc], h2, CellsAre.append h3 h'⟩
theorem CellsAre.one {x : α} {cs} (h : E.R F w cs x) : CellsAre E F w cs [x] := ⟨cs, [], by simp, h, rfl⟩
theorem CellsAre.length : ∀ {xs : List α} {cells}, CellsAre E F w cells xs → cells.length = xs.length * E.n
  | [], _, h => by cases h; simp
  | x :: xs, _, ⟨cs, rest, h1, h2, h3⟩ => by rw [h1, List.length_append, E.len h2, CellsAre.length h3, List.length_cons, Nat.add_mul]; omega
theorem CellsAre.oneCell : ∀ {xs : List α} {cells}, CellsAre E F w cells xs → ∀ v ∈ cells, v.oneCell' = true
  | [], _, h, v, hv => by cases h; simp at hv
  | x :: xs, _, ⟨cs, rest, h1, h2, h3⟩, v, hv => by
    rw [h1, List.mem_append] at hv
    rcases hv with hv | hv
    · exact E.one h2 v hv
    · exact CellsAre.oneCell h3 v hv
theorem CellsAre.get : ∀ {xs : List α} {cells} {i : Nat} {x : α}, CellsAre E F w cells xs → xs[i]? = some x → ∃ cs, E.R F w cs x ∧ ∀ j c, cs[j]? = some c → cells[i * E.n + j]? = some c
  | [], _, i, x, _, hx => by simp at hx
  | y :: xs, _, 0, x, ⟨cs, rest, h1, h2, h3⟩, hx => by
    simp at hx; subst hx
    refine ⟨cs, h2, fun j c hc => ?_⟩
    have hj := (List.getElem?_eq_some_iff.1 hc).1
    rw [h1, Nat.zero_mul, Nat.zero_add, List.getElem?_append_left hj, hc]
  | y :: xs, _, i + 1, x, ⟨cs, rest, h1, h2, h3⟩, hx => by
    obtain ⟨cs', h4, h5⟩ := CellsAre.get h3 (by simpa using hx)
    refine ⟨cs', h4, fun j c hc => ?_⟩
    rw [h1, List.getElem?_append_right (by rw [E.len h2, Nat.add_mul]; omega), E.len h2, Nat.add_mul, show i * E.n + 1 * E.n + j - E.n = i * E.n + j from by omega]
    exact h5 j c hc
theorem cellsAre_ints {k : IntKind} : ∀ {xs : List Int}, (∀ x ∈ xs, Fits k x) → CellsAre (pI k) F w (xs.map (Value.int k)) xs
  | [], _ => rfl
  | x :: xs, h => ⟨[.int k x], xs.map (Value.int k), rfl, ⟨rfl, h x (by simp)⟩, cellsAre_ints fun y hy => h y (by simp [hy])⟩
end

/-- a slice that the call made: it may be appended to; its elements lie in other blocks, those of G -/
def Own {α : Type} (E : Rp α) (e : TypeId) (base : Nat) (G : Nat → Prop) (w : World) (v : Value) (xs : List α) : Prop :=
  ∃ cells, w.ownsRow base e E.n v xs.length cells ∧ CellsAre E (fun k => G k ∧ k < w.heap.size ∧ some k ≠ v.ownBlock) w cells xs
section
variable {α : Type} {E : Rp α} {w w' : World} {e : TypeId} {base : Nat} {G : Nat → Prop} {v v' : Value} {xs ys : List α}
theorem Own.nil : Own E e base G w (.slice none 0 0) ([] : List α) := ⟨[], ⟨by simp, .inl ⟨rfl, rfl⟩⟩, rfl⟩
theorem Own.empty {w : World} (hb : base ≤ w.heap.size) : Own E e base G (w.alloc (.cells #[] e)) (.slice (some ⟨w.heap.size, 0, none⟩) 0 0) ([] : List α) :=
  ⟨[], ⟨by simp, .inr ⟨w.heap.size, 0, #[], rfl, hb, heap_alloc_new w _, Nat.le_refl _, Nat.zero_le _, by simp, by simp⟩⟩, rfl⟩
/-- what nothing has touched stays owned -/
theorem Own.keep (h : Own E e base G w v xs) (hk : ∀ k, k < w.heap.size → w'.heap[k]? = w.heap[k]?) (hs : w.heap.size ≤ w'.heap.size) : Own E e base G w' v xs := by
  obtain ⟨cells, ⟨h1, h2⟩, h3⟩ := h
  refine ⟨cells, ⟨h1, ?_⟩, (CellsAre.keep (fun k hF => hk k hF.2.1) h3).wide fun k hF => ⟨hF.1, by omega, hF.2.2⟩⟩
  rcases h2 with h2 | ⟨g, cap, cur, hv, hb, hg, r⟩
  · exact .inl h2
  · exact .inr ⟨g, cap, cur, hv, hb, by rw [hk g (Array.getElem?_eq_some_iff.1 hg).1]; exact hg, r⟩
theorem Own.alloc (h : Own E e base G w v xs) (o : Obj) : Own E e base G (w.alloc o) v xs := h.keep (fun k hk => Below.heap_alloc w o k hk) (by simp)
theorem Own.drew (h : Own E e base G w v xs) : Own E e base G w.drew v xs := h.keep (fun _ _ => rfl) (Nat.le_refl _)
theorem Own.drewN (h : Own E e base G w v xs) (n : Nat) : Own E e base G (w.drewN n) v xs := h.keep (fun _ _ => rfl) (Nat.le_refl _)
theorem Own.later (h : Own E e base G w v xs) (hb : Below w.heap.size w w') : Own E e base G w' v xs := h.keep hb.block hb.size
theorem Own.sl (h : Own E e base G w v xs) : ∃ A cap, v = .slice A xs.length cap ∧ SlAt E (fun k => (G k ∨ base ≤ k) ∧ k < w.heap.size) w A cap xs := by
  obtain ⟨cells, ⟨h1, h2⟩, h3⟩ := h
  rcases h2 with ⟨hv, h0⟩ | ⟨g, cap, cur, hv, hb, hg, hnc, hcm, hsz, htake⟩
  · have hx : xs = [] := List.eq_nil_of_length_eq_zero h0
    subst hx
    exact ⟨none, 0, hv, ⟨Nat.le_refl _, Nat.zero_le _, (fun _ => rfl), fun i x hx => by simp at hx⟩⟩
  · refine ⟨some ⟨g, 0, none⟩, cap, hv, ⟨hnc, hcm, (fun e => by cases e), fun i x hx => ?_⟩⟩
    obtain ⟨cs, h4, h5⟩ := h3.get hx
    refine ⟨g, 0, cs, rfl, ⟨.inr hb, (Array.getElem?_eq_some_iff.1 hg).1⟩, E.wide h4 (fun k hk => ⟨.inl hk.1, hk.2.1⟩), fun j c hc => ?_⟩
    have h6 := h5 j c hc
    rw [← htake, List.getElem?_take] at h6
    split at h6
    · rw [cell_of_row w g _ cur e (0, 0) hg, Nat.zero_add]
      simpa using h6
    · cases h6
/-- one that was made whole since base -/
theorem Own.fresh (h : Own E e base (base ≤ ·) w v xs) : ∃ A cap, v = .slice A xs.length cap ∧ SlAt E (fun k => base ≤ k ∧ k < w.heap.size) w A cap xs := by
  obtain ⟨A, cap, h1, h2⟩ := h.sl
  exact ⟨A, cap, h1, h2.wide fun k hk => ⟨hk.1.elim id id, hk.2⟩⟩
/-- what is owned, its elements leading nowhere (integers) -/
theorem CellsAre.flat (hE : ∀ (F F' : Nat → Prop) (w : World) cs x, E.R F w cs x → E.R F' w cs x) {F F' : Nat → Prop} : ∀ {xs : List α} {cells}, CellsAre E F w cells xs → CellsAre E F' w cells xs
  | [], _, h => h
  | _ :: _, _, ⟨cs, rest, h1, h2, h3⟩ => ⟨cs, rest, h1, hE _ _ _ _ _ h2, CellsAre.flat hE h3⟩
theorem Own.flat (hE : ∀ (F F' : Nat → Prop) (w : World) cs x, E.R F w cs x → E.R F' w cs x) {G' : Nat → Prop} (h : Own E e base G w v xs) : Own E e base G' w v xs := by
  obtain ⟨cells, h1, h2⟩ := h; exact ⟨cells, h1, h2.flat hE⟩
theorem Own.lt (h : Own E e base G w v xs) : ∀ k, v.ownBlock = some k → base ≤ k ∧ k < w.heap.size := by
  obtain ⟨cells, h1, _⟩ := h; exact h1.lt
/-- behind an append -/
theorem own_append {cells news : List Value} {F : Nat → Prop} (h3 : CellsAre E (fun k => G k ∧ k < w.heap.size ∧ some k ≠ v.ownBlock) w cells xs) (h4 : CellsAre E F w news ys) (hF : ∀ k, F k → G k ∧ k < w.heap.size ∧ some k ≠ v.ownBlock)
    (hown : w'.ownsRow base e E.n v' (xs.length + ys.length) (cells ++ news)) (hg : w.grownBy w' v.ownBlock) (hat : v'.ownBlock = v.ownBlock ∨ v'.ownBlock = some w.heap.size) : Own E e base G w' v' (xs ++ ys) := by
  refine ⟨cells ++ news, by rw [List.length_append]; exact hown, ?_⟩
  have h5 := CellsAre.append h3 (h4.wide hF)
  refine (CellsAre.keep (fun k hk => hg.block k hk.2.1 hk.2.2) h5).wide fun k hk => ⟨hk.1, Nat.lt_of_lt_of_le hk.2.1 hg.size, ?_⟩
  rcases hat with hat | hat
  · rw [hat]; exact hk.2.2
  · rw [hat]; intro he; cases he; exact Nat.lt_irrefl _ hk.2.1
end

section
variable {P : Program} {α : Type} {E : Rp α}
/-- the append of a plain region's list of operations, over data -/
theorem wpList_app {ops : Array Oper} {rest : List Oper} {o : Oper} {a : Act} {Q : Exit → Act → World → Prop} {w : World} {base : Nat} {G : Nat → Prop} {v : Value} {xs : List α} (t e : TypeId) (z : Value) (bytes : Nat) (hgd : o.guard = none) (s x : Operand)
    (ho : o.op = .call { callee := .builtin .append, args := #[s, x], argTypes := #[t, t] })
    (ht : P.underlying t = some (.slice e)) (hinfo : (P.info? e).map (fun i => (i.zero, i.size, i.bytes)) = some (some z, E.n, bytes)) (hzs : z.cells.size = E.n) (hsz : 0 < E.n)
    (hs : a.eval s = v) (hown : Own E e base G w v xs)
    (ad : Addr) (m c : Nat) (hx : a.eval x = .slice (some ad) m c) (news : List Value) (ys : List α) (hm : ys.length = m) (F : Nat → Prop) (hnew : CellsAre E F w news ys) (hnews : ∀ j u, news[j]? = some u → w.cell? (ad.add j) = some u)
    (hF : ∀ k, F k → G k ∧ k < w.heap.size ∧ some k ≠ v.ownBlock) (hlen : xs.length + ys.length ≤ 1073741824) (hb : bytes ≤ 131072) (hbase : base ≤ w.heap.size)
    (h : ∀ v' w', Own E e base G w' v' (xs ++ ys) → w.grownBy w' v.ownBlock → (v'.ownBlock = v.ownBlock ∨ v'.ownBlock = some w.heap.size) → wpList P ops Q rest (a.put o.dst v') w') : wpList P ops Q (o :: rest) a w := by
  obtain ⟨i, hi, hz, h1, h2⟩ := info_parts hinfo
  obtain ⟨cells, h3, h4⟩ := hown
  subst hm
  have hby : (xs.length + ys.length) * bytes ≤ 140737488355328 := by
    have := Nat.mul_le_mul hlen hb
    omega
  exact wpList_append_own_at (P := P) w hgd s x t ho base e i z E.n bytes ht hi hz h1 h2 hzs hsz v xs.length cells hs h3 ad ys.length c news hx hnew.length hnews hnew.oneCell (by unfold maxLen; omega) hby hbase
    (fun v' w' h5 h6 _ h7 => h v' w' (own_append h4 hnew hF h5 h6 h7) h6 h7)
theorem cells_of {F : Nat → Prop} {w : World} {b o : Nat} : ∀ (ys : List α) (i0 : Nat), (∀ i x, ys[i]? = some x → ∃ cs, E.R F w cs x ∧ ∀ j c, cs[j]? = some c → w.cell? ⟨b, o + (i0 + i) * E.n + j, none⟩ = some c) →
    ∃ news, CellsAre E F w news ys ∧ ∀ j u, news[j]? = some u → w.cell? ⟨b, o + i0 * E.n + j, none⟩ = some u
  | [], _, _ => ⟨[], rfl, fun j u hu => by simp at hu⟩
  | y :: ys, i0, h => by
    obtain ⟨cs, h1, h2⟩ := h 0 y (by simp)
    obtain ⟨rest, h3, h4⟩ := cells_of ys (i0 + 1) fun i x hx => by
      obtain ⟨cs, h5, h6⟩ := h (i + 1) x (by simpa using hx)
      exact ⟨cs, h5, fun j c hc => by rw [show i0 + 1 + i = i0 + (i + 1) from by omega]; exact h6 j c hc⟩
    refine ⟨cs ++ rest, ⟨cs, rest, rfl, h1, h3⟩, fun j u hu => ?_⟩
    by_cases hj : j < cs.length
    · rw [List.getElem?_append_left hj] at hu
      simpa using h2 j u hu
    · rw [List.getElem?_append_right (by omega)] at hu
      have h7 := h4 _ _ hu
      rw [E.len h1] at h7
      rw [E.len h1] at hj
      rw [← h7, Nat.add_mul, Nat.one_mul]
      congr 2; omega
theorem SlAt.cells {F : Nat → Prop} {w : World} {ad : Addr} {cap : Nat} {ys : List α} (h : SlAt E F w (some ad) cap ys) : ∃ news, CellsAre E F w news ys ∧ ∀ j u, news[j]? = some u → w.cell? (ad.add j) = some u := by
  cases ys with
  | nil => exact ⟨[], rfl, fun j u hu => by simp at hu⟩
  | cons y ys =>
    obtain ⟨b, o, _, h1, _⟩ := h.el 0 y (by simp)
    cases h1
    obtain ⟨news, h2, h3⟩ := cells_of (E := E) (F := F) (w := w) (b := b) (o := o) (y :: ys) 0 fun i x hx => by
      obtain ⟨b', o', cs, h1, _, h2, h3⟩ := h.el i x hx
      cases h1
      exact ⟨cs, h2, fun j c hc => by rw [Nat.zero_add]; exact h3 j c hc⟩
    exact ⟨news, h2, fun j u hu => by rw [add_lit']; simpa using h3 j u hu⟩
/-- an append of a whole slice, nil or not -/
theorem wpList_app_sl {ops : Array Oper} {rest : List Oper} {o : Oper} {a : Act} {Q : Exit → Act → World → Prop} {w : World} {base : Nat} {G : Nat → Prop} {v : Value} {xs : List α} (t e : TypeId) (z : Value) (bytes : Nat) (hgd : o.guard = none) (s x : Operand)
    (ho : o.op = .call { callee := .builtin .append, args := #[s, x], argTypes := #[t, t] })
    (ht : P.underlying t = some (.slice e)) (hinfo : (P.info? e).map (fun i => (i.zero, i.size, i.bytes)) = some (some z, E.n, bytes)) (hzs : z.cells.size = E.n) (hsz : 0 < E.n)
    (hs : a.eval s = v) (hown : Own E e base G w v xs) (A : Option Addr) (c : Nat) (ys : List α) (hx : a.eval x = .slice A ys.length c) (F : Nat → Prop) (hsl : SlAt E F w A c ys)
    (hF : ∀ k, F k → G k ∧ k < w.heap.size ∧ some k ≠ v.ownBlock) (hlen : xs.length + ys.length ≤ 1073741824) (hb : bytes ≤ 131072) (hbase : base ≤ w.heap.size)
    (h : ∀ v' w', Own E e base G w' v' (xs ++ ys) → w.grownBy w' v.ownBlock → (v'.ownBlock = v.ownBlock ∨ v'.ownBlock = some w.heap.size) → wpList P ops Q rest (a.put o.dst v') w') : wpList P ops Q (o :: rest) a w := by
  cases A with
  | some ad =>
    obtain ⟨news, h1, h2⟩ := hsl.cells
    exact wpList_app t e z bytes hgd s x ho ht hinfo hzs hsz hs hown ad ys.length c hx news ys rfl F h1 h2 hF hlen hb hbase h
  | none =>
    have hc := hsl.nil rfl
    have hl := hsl.le
    have hy : ys = [] := List.eq_nil_of_length_eq_zero (by omega)
    subst hy
    subst hc
    obtain ⟨i, hi, hz, h1, h2⟩ := info_parts hinfo
    have hown' := hown
    obtain ⟨cells, h3, h4⟩ := hown
    refine wpList_plain hgd fun K hK => ?_
    have hrun := run_append_owned_none (P := P) w base t o.type e i E.n ht hi v xs.length cells h3
    unfold Oper.wp
    simp [execOp, ho, resolve, invoke, builtin, hs, hx, hrun, Result.andThen]
    exact hK _ _ (h v w (by simpa using hown') (World.grownBy.refl w _) (.inl rfl))
/-- what an append of an own slice leaves below the base -/
theorem below_app {B base : Nat} {G : Nat → Prop} {a w w' : World} {e : TypeId} {v : Value} {xs : List α} (h : Below B a w) (hg : w.grownBy w' v.ownBlock) (hown : Own E e base G w v xs) (hB : B ≤ base) (hs : base ≤ w.heap.size) : Below B a w' :=
  h.grown hg (Nat.le_trans hB hs) fun k hk => Nat.le_trans hB (hown.lt k hk).1
end

/-- n cells of integers, by their numbers -/
def cellsN (n : Nat) (f : Nat → Int) : Array Value := ((List.range n).map fun i => Value.int .i64 (f i)).toArray
theorem cellsN_get (f : Nat → Int) {n k : Nat} (hk : k < n) : (cellsN n f)[k]? = some (.int .i64 (f k)) := by
  unfold cellsN; simp [hk]
theorem cellsN_set (n : Nat) (f : Nat → Int) (k : Nat) (v : Int) : (cellsN n f).setIfInBounds k (.int .i64 v) = cellsN n (fun i => if i = k then v else f i) := by
  unfold cellsN
  apply Array.ext_getElem?
  intro i
  rw [Array.getElem?_setIfInBounds]
  by_cases hi : i < n <;> by_cases hik : k = i
  · subst hik; simp [hi]
  · simp [hi, hik, Ne.symm hik]
  · subst hik; simp [hi]
  · simp [hi, hik]
theorem cellsN_made (n : Nat) : madeCells #[Value.int .i64 0] n = cellsN n (fun _ => 0) := by
  unfold madeCells cellsN
  apply Array.ext_getElem?
  intro i
  by_cases hi : i < n <;> simp [hi, Nat.mod_one]
/-- a block of integers, read as a slice -/
theorem sl_of_blk {w : World} {g n : Nat} {t : TypeId} {f : Nat → Int} {F : Nat → Prop} (h : Blk w g t (cellsN n f)) (hF : F g) (hn : n ≤ maxLen) (hf : ∀ i, i < n → Fits .i64 (f i)) :
    SlAt (pI .i64) F w (some ⟨g, 0, none⟩) n ((List.range n).map f) := by
  refine ⟨by simp, hn, (fun e => by cases e), fun i x hx => ?_⟩
  have hi : i < n := by
    have := (List.getElem?_eq_some_iff.1 hx).1
    simpa using this
  have hxi : x = f i := by
    rw [List.getElem?_map, List.getElem?_range hi] at hx
    simpa using hx.symm
  subst hxi
  refine ⟨g, 0, _, rfl, hF, ⟨rfl, hf i hi⟩, fun j c hc => ?_⟩
  match j, hc with
  | 0, hc =>
    simp at hc; subst hc
    rw [h.cell]
    simpa [pI] using cellsN_get f hi

/-- there is room for one more -/
def Room (n : Nat) : Prop := n < 1073741824
theorem room_of {n : Nat} (h : n ≤ 1000000) : Room n := by unfold Room; omega

/-! ### 'out = append(out, x)': the element's box and the append in one step -/
theorem fold_set : ∀ (l : List Value) (k : Nat) (z : Array Value), z.size = k + l.length → ((l.zipIdx k).foldl (fun cs (p : Value × Nat) => cs.setIfInBounds p.2 p.1) z).toList = z.toList.take k ++ l
  | [], k, z, h => by
    have : z.toList.length = k := by simpa using h
    simp [List.take_of_length_le (Nat.le_of_eq this)]
  | v :: l, k, z, h => by
    rw [List.zipIdx_cons, List.foldl_cons, fold_set l (k + 1) _ (by simp at h ⊢; omega)]
    have hk : k < z.toList.length := by simp at h ⊢; omega
    simp only [Array.toList_setIfInBounds]
    rw [List.take_add_one, List.take_set_of_le (Nat.le_refl k), List.getElem?_set_self hk]
    simp
theorem fill_one {z c : Array Value} {s : Nat} (hz : z.size = s) (hc : c.size = s) (v : Value) (hv : v.cells = c) : Instr.fill (fun i => some (i * s, s)) z [(0, v)] = some c := by
  have h0 := fold_set c.toList 0 z (by simp [hz, hc])
  simp only [List.take_zero, List.nil_append] at h0
  have h1 : c.zipIdx.foldl (fun cs (p : Value × Nat) => cs.setIfInBounds p.2 p.1) z = c := by
    apply Array.ext'
    rw [← h0, ← Array.foldl_toList, Array.toList_zipIdx]
  have h2 : ¬ (c.size ≠ s ∨ 0 * s + c.size > z.size) := by simp only [Nat.zero_mul, Nat.zero_add]; omega
  unfold Instr.fill
  simp only [hv]
  rw [if_neg (by simpa using h2)]
  unfold Instr.fill
  congr 1
  refine Eq.trans ?_ h1
  congr 1
  funext cs p
  simp

theorem run_buildSlice1 {P : Program} {t e : TypeId} {z : Value} {size bytes : Nat} (ht : P.underlying t = some (.slice e)) (hinfo : (P.info? e).map (fun i => (i.zero, i.size, i.bytes)) = some (some z, size, bytes)) (hzs : z.cells.size = size) (hsz : 0 < size) (hbd : size ≤ 16777216)
    (v : Value) (hv : v.cells.size = size) (w : World) : (Instr.buildSlice t 1 #[(0, v)]).run P w = .ok (.slice (some ⟨w.heap.size, 0, none⟩) 1 1) (w.alloc (.cells v.cells e)) := by
  obtain ⟨i, hi, hz, h1, _⟩ := info_parts hinfo
  have hfill := fill_one (z := (Array.range size).map (z.cells[· % z.cells.size]!)) (c := v.cells) (s := size) (by simp) hv v rfl
  subst h1
  unfold Instr.buildSlice
  simp only [Sem.run_bind, run_underlying ht, Result.andThen_ok, sizeOf, typeInfo]
  simp [hi, zeroValue, typeInfo, hz, show ¬ (16777216 < i.size) from by omega, show i.size ≠ 0 from by omega, hfill, newRow]

section
variable {P : Program} {α : Type} {E : Rp α}
theorem own_alloc {w : World} {base : Nat} {G : Nat → Prop} {e : TypeId} {v : Value} {xs : List α} (h : Own E e base G w v xs) (o : Obj) : Own E e base G (w.alloc o) v xs := h.alloc o
/-- 'out = append(out, x)' -/
theorem wpList_push {ops : Array Oper} {rest : List Oper} {o1 o2 : Oper} {a : Act} {Q : Exit → Act → World → Prop} {w : World} {base : Nat} {G : Nat → Prop} {v : Value} {xs : List α} (t e : TypeId) (z : Value) (bytes : Nat) (tmp : Nat) (s xo : Operand)
    (hg1 : o1.guard = none) (hg2 : o2.guard = none) (hd1 : o1.dst = some tmp) (ho1 : o1.op = .buildSlice t 1 #[(0, xo)])
    (ho2 : o2.op = .call { callee := .builtin .append, args := #[s, .tmp tmp], argTypes := #[t, t] })
    (ht : P.underlying t = some (.slice e)) (hinfo : (P.info? e).map (fun i => (i.zero, i.size, i.bytes)) = some (some z, E.n, bytes)) (hzs : z.cells.size = E.n) (hsz : 0 < E.n)
    (hs : ∀ u, (a.put (some tmp) u).eval s = v) (ht2 : ∀ u, (a.put (some tmp) u).eval (.tmp tmp) = u) (hown : Own E e base G w v xs)
    (u : Value) (hu : a.eval xo = u) (x : α) (F : Nat → Prop) (hR : E.R F w u.cells.toList x)
    (hF : ∀ k, F k → G k ∧ k < w.heap.size ∧ some k ≠ v.ownBlock) (hlen : Room xs.length) (hb : bytes ≤ 131072 ∧ E.n ≤ 16777216) (hbase : base ≤ w.heap.size)
    (h : ∀ A' c' w', Own E e base G w' (.slice A' (xs.length + 1) c') (xs ++ [x]) → Below base w w' → (∀ k, k < w.heap.size → some k ≠ v.ownBlock → w'.heap[k]? = w.heap[k]?) →
      wpList P ops Q rest ((a.put (some tmp) (.slice (some ⟨w.heap.size, 0, none⟩) 1 1)).put o2.dst (.slice A' (xs.length + 1) c')) w') : wpList P ops Q (o1 :: o2 :: rest) a w := by
  have hcl := E.len hR
  have hrun := run_buildSlice1 (P := P) (t := t) (e := e) (z := z) (size := E.n) (bytes := bytes) ht hinfo hzs hsz hb.2 u (by simpa using hcl) w
  refine wpList_plain hg1 fun K hK => ?_
  unfold Oper.wp
  rw [show execOp a.eval o1 = do return .value (← Instr.buildSlice t 1 #[(0, u)]) from by simp [execOp, ho1, hu]]
  simp only [Sem.run_bind, hrun, Result.andThen_ok, Sem.run_pure, Oper.upon_value, hd1]
  refine hK _ _ ?_
  have hkp : ∀ k, k < w.heap.size → (w.alloc (.cells u.cells e)).heap[k]? = w.heap[k]? := fun k hk => Below.heap_alloc _ _ _ hk
  refine wpList_app (P := P) (E := E) (base := base) (G := G) (v := v) (xs := xs) t e z bytes hg2 s (.tmp tmp) ho2 ht hinfo hzs hsz (hs _) (hown.alloc _) ⟨w.heap.size, 0, none⟩ 1 1 (ht2 _) u.cells.toList [x] rfl F
    (CellsAre.one (E.keep hR fun k hk => hkp k (hF k hk).2.1)) (fun j c hc => ?_) (fun k hk => ⟨(hF k hk).1, by simp; have := (hF k hk).2.1; omega, (hF k hk).2.2⟩) (by unfold Room at hlen; simp; omega) hb.1 (by simp; omega) (fun v' w' h1 h2 h3 => ?_)
  · rw [add_lit', Nat.zero_add, (Blk.new w e u.cells).cell]; simpa using hc
  · obtain ⟨cells, ⟨hl, hv⟩, hc⟩ := h1
    have hform : ∃ A' c', v' = .slice A' (xs.length + 1) c' := by
      rcases hv with ⟨_, h0⟩ | ⟨g, cap, cur, hv, _⟩
      · simp at h0
      · rw [List.length_append] at hv; exact ⟨_, _, hv⟩
    obtain ⟨A', c', rfl⟩ := hform
    refine h A' c' w' ⟨cells, ⟨hl, hv⟩, hc⟩ ?_ fun k hk hne => (h2.block k (by simp; omega) hne).trans (hkp k hk)
    refine below_app ((Below.refl base w).alloc hbase _) h2 (hown.alloc _) (Nat.le_refl _) (by simp; omega)
/-- 'out = append(out, ys...)' -/
theorem wpList_cat {ops : Array Oper} {rest : List Oper} {o : Oper} {a : Act} {Q : Exit → Act → World → Prop} {w : World} {base : Nat} {G : Nat → Prop} {v : Value} {xs : List α} (t e : TypeId) (z : Value) (bytes : Nat) (s x : Operand) (hgd : o.guard = none)
    (ho : o.op = .call { callee := .builtin .append, args := #[s, x], argTypes := #[t, t] })
    (ht : P.underlying t = some (.slice e)) (hinfo : (P.info? e).map (fun i => (i.zero, i.size, i.bytes)) = some (some z, E.n, bytes)) (hzs : z.cells.size = E.n) (hsz : 0 < E.n)
    (hs : a.eval s = v) (hown : Own E e base G w v xs) (A : Option Addr) (c : Nat) (ys : List α) (hx : a.eval x = .slice A ys.length c) (F : Nat → Prop) (hsl : SlAt E F w A c ys)
    (hF : ∀ k, F k → G k ∧ k < w.heap.size ∧ some k ≠ v.ownBlock) (n : Nat) (hn : (xs ++ ys).length = n) (hlen : Room n) (hb : bytes ≤ 131072) (hbase : base ≤ w.heap.size)
    (h : ∀ A' c' w', Own E e base G w' (.slice A' n c') (xs ++ ys) → Below base w w' → (∀ k, k < w.heap.size → some k ≠ v.ownBlock → w'.heap[k]? = w.heap[k]?) → wpList P ops Q rest (a.put o.dst (.slice A' n c')) w') : wpList P ops Q (o :: rest) a w := by
  refine wpList_app_sl t e z bytes hgd s x ho ht hinfo hzs hsz hs hown A c ys hx F hsl hF (by rw [← List.length_append, hn]; exact Nat.le_of_lt hlen) hb hbase fun v' w' h1 h2 h3 => ?_
  obtain ⟨cells, ⟨hl, hv⟩, hc⟩ := h1
  have hform : ∃ A' c', v' = .slice A' n c' := by
    rcases hv with ⟨hv, h0⟩ | ⟨g, cap, cur, hv, _⟩
    · rw [hn] at h0; subst h0; exact ⟨_, _, hv⟩
    · rw [hn] at hv; exact ⟨_, _, hv⟩
  obtain ⟨A', c', rfl⟩ := hform
  exact h A' c' w' ⟨cells, ⟨hl, hv⟩, hc⟩ (below_app (Below.refl base w) h2 hown (Nat.le_refl _) hbase) h2.block
end

section
variable {P : Program} {α : Type} {E : Rp α}
/-- an append as one operation; the source a slice that lies by E -/
theorem wp_cat {o : Oper} {a : Act} {K : Act → World → Prop} {Q : Exit → Act → World → Prop} {w : World} {base : Nat} {G : Nat → Prop} {v : Value} {xs : List α} (t e : TypeId) (z : Value) (bytes : Nat) (s x : Operand)
    (ho : o.op = .call { callee := .builtin .append, args := #[s, x], argTypes := #[t, t] })
    (ht : P.underlying t = some (.slice e)) (hinfo : (P.info? e).map (fun i => (i.zero, i.size, i.bytes)) = some (some z, E.n, bytes)) (hzs : z.cells.size = E.n) (hsz : 0 < E.n)
    (hs : a.eval s = v) (hown : Own E e base G w v xs) (A : Option Addr) (c : Nat) (ys : List α) (hx : a.eval x = .slice A ys.length c) (F : Nat → Prop) (hsl : SlAt E F w A c ys)
    (hF : ∀ k, F k → G k ∧ k < w.heap.size ∧ some k ≠ v.ownBlock) (n : Nat) (hn : (xs ++ ys).length = n) (hlen : Room n) (hb : bytes ≤ 131072) (hbase : base ≤ w.heap.size)
    (h : ∀ A' c' w', Hid (Own E e base G w' (.slice A' n c') (xs ++ ys)) → Below base w w' → Hid (∀ k, k < w.heap.size → some k ≠ v.ownBlock → w'.heap[k]? = w.heap[k]?) → K (a.put o.dst (.slice A' n c')) w') : o.wp P a w K Q := by
  obtain ⟨i, hi, hz, h1, h2⟩ := info_parts hinfo
  have hown' := hown
  obtain ⟨cells, h3, h4⟩ := hown
  cases A with
  | some ad =>
    obtain ⟨news, h5, h6⟩ := hsl.cells
    have hby : (xs.length + ys.length) * bytes ≤ 140737488355328 := by
      rw [← List.length_append, hn]
      have := Nat.mul_le_mul (Nat.le_of_lt hlen) hb
      omega
    have hml : xs.length + ys.length ≤ maxLen := by
      rw [← List.length_append, hn]; unfold Room at hlen; unfold maxLen; omega
    obtain ⟨v', w', hr, k1, k2, _, k4⟩ := run_append_own_at (P := P) w base t o.type e i z E.n bytes ht hi hz h1 h2 hzs hsz v xs.length cells h3 ad ys.length c news h5.length h6 h5.oneCell hml hby hbase
    have hO := own_append h4 h5 hF k1 k2 k4
    have hform : ∃ A' c', v' = .slice A' n c' := by
      obtain ⟨cells', ⟨hl, hv⟩, hc⟩ := hO
      rcases hv with ⟨hv, h0⟩ | ⟨g, cap, cur, hv, _⟩
      · rw [hn] at h0; subst h0; exact ⟨_, _, hv⟩
      · rw [hn] at hv; exact ⟨_, _, hv⟩
    obtain ⟨A', c', rfl⟩ := hform
    unfold Oper.wp execOp
    simp only [ho, resolve, invoke, builtin, Sem.run_bind, Sem.run_pure, Result.andThen_ok, List.map_toArray, List.map_cons, List.map_nil, hs, hx, hr]
    exact h A' c' w' hO (below_app (Below.refl base w) k2 hown' (Nat.le_refl _) hbase) k2.block
  | none =>
    have hc := hsl.nil rfl
    have hl := hsl.le
    have hy : ys = [] := List.eq_nil_of_length_eq_zero (by omega)
    subst hy
    subst hc
    have hrun := run_append_owned_none (P := P) w base t o.type e i E.n ht hi v xs.length cells h3
    have hform : ∃ A' c', v = .slice A' n c' := by
      rcases h3.2 with ⟨hv, h0⟩ | ⟨g, cap, cur, hv, _⟩
      · rw [List.append_nil] at hn; rw [hn] at h0; subst h0; exact ⟨_, _, hv⟩
      · rw [List.append_nil] at hn; rw [hn] at hv; exact ⟨_, _, hv⟩
    obtain ⟨A', c', rfl⟩ := hform
    unfold Oper.wp execOp
    simp only [List.length_nil] at hx
    simp only [ho, resolve, invoke, builtin, Sem.run_bind, Sem.run_pure, Result.andThen_ok, List.map_toArray, List.map_cons, List.map_nil, hs, hx, hrun]
    exact h A' c' w (by unfold Hid; rw [List.append_nil]; exact hown') (Below.refl base w) (fun _ _ _ => rfl)
theorem step_cat {ops : Array Oper} {o : Oper} {a : Act} {K : Act → World → Prop} {Q : Exit → Act → World → Prop} {D : Prop} {w : World} {base : Nat} {G : Nat → Prop} {v : Value} {xs : List α} (t e : TypeId) (z : Value) (bytes : Nat) (s x : Operand) (hgd : o.guard = none)
    (ho : o.op = .call { callee := .builtin .append, args := #[s, x], argTypes := #[t, t] })
    (ht : P.underlying t = some (.slice e)) (hinfo : (P.info? e).map (fun i => (i.zero, i.size, i.bytes)) = some (some z, E.n, bytes)) (hzs : z.cells.size = E.n) (hsz : 0 < E.n)
    (hs : a.eval s = v) (hown : Own E e base G w v xs) (A : Option Addr) (c : Nat) (ys : List α) (hx : a.eval x = .slice A ys.length c) (F : Nat → Prop) (hsl : SlAt E F w A c ys)
    (hF : ∀ k, F k → G k ∧ k < w.heap.size ∧ some k ≠ v.ownBlock) (n : Nat) (hn : (xs ++ ys).length = n) (hlen : Room n) (hb : bytes ≤ 131072) (hbase : base ≤ w.heap.size)
    (h : ∀ A' c' w', Hid (Own E e base G w' (.slice A' n c') (xs ++ ys)) → Below base w w' → Hid (∀ k, k < w.heap.size → some k ≠ v.ownBlock → w'.heap[k]? = w.heap[k]?) → K (a.put o.dst (.slice A' n c')) w') :
    if Region.wanted o (yielded ops a.tmps) = true then Oper.wp P o a w K Q else D := by
  rw [if_pos (by simp [Region.wanted, hgd])]
  exact wp_cat t e z bytes s x ho ht hinfo hzs hsz hs hown A c ys hx F hsl hF n hn hlen hb hbase h
/-- the one element that was boxed at the heap's end, as a slice -/
theorem sl_boxed {w : World} {F : Nat → Prop} {u : Value} {x : α} {e : TypeId} (hR : E.R F w u.cells.toList x) (hF : ∀ k, F k → k < w.heap.size) : SlAt E (fun k => F k ∨ k = w.heap.size) (w.alloc (.cells u.cells e)) (some ⟨w.heap.size, 0, none⟩) 1 [x] := by
  refine ⟨Nat.le_refl _, by unfold maxLen; omega, (fun he => by cases he), fun i y hy => ?_⟩
  have hi : i = 0 := by have := (List.getElem?_eq_some_iff.1 hy).1; simpa using this
  subst hi
  simp at hy; subst hy
  refine ⟨w.heap.size, 0, u.cells.toList, rfl, .inr rfl, E.wide (E.keep hR fun k hk => Below.heap_alloc _ _ _ (hF k hk)) (fun k hk => .inl hk), fun j c hc => ?_⟩
  rw [Nat.zero_mul, Nat.zero_add, (Blk.new w e u.cells).cell]; simpa using hc
end

/-! ### 'copy(out, w)' onto a block of the same length -/
theorem run_copyAll {P : Program} {w : World} {dT sT ty elem : TypeId} {size n g : Nat} {t : TypeId} {cur : Array Value} (hu : P.underlying dT = some (.slice elem)) (hs : (P.info? elem).map (·.size) = some size)
    (hb : Blk w g t cur) (hcs : cur.size = n * size) (ad : Addr) (c : Nat) (cs : List Value) (hl : cs.length = n * size) (hsrc : ∀ j v, cs[j]? = some v → w.cell? (ad.add j) = some v) (h1 : ∀ v ∈ cs, v.oneCell' = true) :
    (Builtin.copy_ #[dT, sT] ty #[.slice (some ⟨g, 0, none⟩) n n, .slice (some ad) n c]).run P w = .ok (goInt n) (w.setRow g cs.toArray) := by
  obtain ⟨i, hi, rfl⟩ := Option.map_eq_some_iff.1 hs
  have hf := run_firstCells_some (P := P) w i.size n ad n c cs hl hsrc
  have hst := run_storeCells_at P g 0 t cs 0 cur w hb (by simp; omega) h1
  have hlen : cur.toList.length = cs.length := by simp; omega
  simp only [Nat.add_zero, Nat.zero_add, List.take_zero, List.nil_append, List.drop_of_length_le (Nat.le_of_eq hlen), List.append_nil] at hst
  simp [Builtin.copy_, run_underlying hu, Builtin.lenOf, sizeOf, typeInfo, hi, hf, hst]
section
variable {P : Program} {α : Type} {E : Rp α}
theorem wpList_copyAll {ops : Array Oper} {rest : List Oper} {o : Oper} {a : Act} {Q : Exit → Act → World → Prop} {w : World} (dT elem : TypeId) (d s : Operand) (hgd : o.guard = none)
    (ho : o.op = .call { callee := .builtin .copy, args := #[d, s], argTypes := #[dT, dT] }) (hu : P.underlying dT = some (.slice elem)) (hs : (P.info? elem).map (·.size) = some E.n)
    (n g : Nat) (t : TypeId) (cur : Array Value) (hd : a.eval d = .slice (some ⟨g, 0, none⟩) n n) (hb : Blk w g t cur) (hcs : cur.size = n * E.n) (A : Option Addr) (c : Nat) (ys : List α) (hy : a.eval s = .slice A ys.length c) (hn : ys.length = n)
    (F : Nat → Prop) (hsl : SlAt E F w A c ys) (hF : ∀ k, F k → k ≠ g) (B : Nat) (w0 : World) (hB : Below B w0 w) (hBg : B ≤ g)
    (h : ∀ w' cells, Hid (Blk w' g t cells.toArray) → Hid (CellsAre E F w' cells ys) → Below B w0 w' → Hid (∀ k, k ≠ g → w'.heap[k]? = w.heap[k]?) → w'.heap.size = w.heap.size → wpList P ops Q rest (a.put o.dst (.int .i64 (n : Int))) w') : wpList P ops Q (o :: rest) a w := by
  subst hn
  cases A with
  | some ad =>
    obtain ⟨news, h1, h2⟩ := hsl.cells
    have hrun := run_copyAll (P := P) (dT := dT) (sT := dT) (ty := o.type) hu hs hb hcs ad c news h1.length h2 h1.oneCell
    refine wpList_plain hgd fun K hK => ?_
    unfold Oper.wp
    simp [execOp, ho, resolve, invoke, builtin, hd, hy, hrun, Result.andThen]
    have hk : ∀ k, k ≠ g → (w.setRow g news.toArray).heap[k]? = w.heap[k]? := fun k hk => by
      unfold World.setRow; rw [Array.getElem?_modify, if_neg (Ne.symm hk)]
    refine hK _ _ (h _ news (setRow_heap w g _ _ t _ hb) (h1.keep fun k hkF => hk k (hF k hkF)) ?_ hk (by simp [World.setRow]))
    exact hB.trans ⟨rfl, rfl, rfl, by simp [World.setRow], fun k hkB => hk k (by omega)⟩
  | none =>
    have hc := hsl.nil rfl
    have hl := hsl.le
    have hy0 : ys = [] := List.eq_nil_of_length_eq_zero (by omega)
    subst hy0
    subst hc
    obtain ⟨i, hi, hsz⟩ := Option.map_eq_some_iff.1 hs
    have hcur : cur = #[] := Array.eq_empty_of_size_eq_zero (by simpa using hcs)
    subst hcur
    have hrun : (Builtin.copy_ #[dT, dT] o.type #[.slice (some ⟨g, 0, none⟩) 0 0, .slice none 0 0]).run P w = .ok (goInt 0) w := by
      simp [Builtin.copy_, run_underlying hu, Builtin.lenOf, Builtin.firstCells, sizeOf, typeInfo, hi, storeCells]
    refine wpList_plain hgd fun K hK => ?_
    unfold Oper.wp
    simp only [List.length_nil] at hd hy
    simp [execOp, ho, resolve, invoke, builtin, hd, hy, hrun, Result.andThen]
    exact hK _ _ (h w [] hb rfl hB (fun _ _ => rfl) rfl)
end

theorem cellsAre_idx {α : Type} {E : Rp α} {F : Nat → Prop} {w : World} : ∀ {xs : List α} {cells : List Value}, cells.length = xs.length * E.n → (∀ i x, xs[i]? = some x → ∃ cs, E.R F w cs x ∧ ∀ j c, cs[j]? = some c → cells[i * E.n + j]? = some c) → CellsAre E F w cells xs
  | [], cells, hl, _ => List.eq_nil_of_length_eq_zero (by simpa using hl)
  | x :: xs, cells, hl, h => by
    obtain ⟨cs, h1, h2⟩ := h 0 x (by simp)
    have hn := E.len h1
    have hl' : cells.length = xs.length * E.n + E.n := by rw [hl, List.length_cons, Nat.add_mul, Nat.one_mul]
    refine ⟨cs, cells.drop E.n, ?_, h1, cellsAre_idx (by rw [List.length_drop]; omega) fun i y hy => ?_⟩
    · have : cells.take E.n = cs := by
        apply List.ext_getElem?
        intro j
        rw [List.getElem?_take]
        by_cases hj : j < E.n
        · rw [if_pos hj]
          have hjc : cs[j]? = some (cs[j]'(by omega)) := List.getElem?_eq_getElem _
          have := h2 j _ hjc
          rw [Nat.zero_mul, Nat.zero_add] at this
          rw [this, hjc]
        · rw [if_neg hj, List.getElem?_eq_none (by omega)]
      rw [← this, List.take_append_drop]
    · obtain ⟨cs', h3, h4⟩ := h (i + 1) y (by simpa using hy)
      refine ⟨cs', h3, fun j c hc => ?_⟩
      have := h4 j c hc
      rw [List.getElem?_drop, ← this]
      congr 1
      rw [Nat.add_mul]; omega
/-- no cell of the block is shared with a string -/
def Unf (w : World) (k : Nat) : Prop := ∀ o, w.frozen? ⟨k, o, none⟩ = false
theorem unf_same {w w' : World} {k : Nat} (h : Unf w k) (e : w'.heap[k]? = w.heap[k]?) : Unf w' k := fun o => (World.frozen?_of_block (w := w) (a := ⟨k, o, none⟩) e).trans (h o)
theorem unf_blk {w : World} {g : Nat} {t : TypeId} {cs : Array Value} (h : Blk w g t cs) : Unf w g := fun o => h.free o
theorem own_unf {α : Type} {E : Rp α} {e : TypeId} {base : Nat} {G : Nat → Prop} {w : World} {a : Addr} {n c : Nat} {xs : List α} (h : Own E e base G w (.slice (some a) n c) xs) : Unf w a.block := by
  obtain ⟨cells, ⟨_, h2⟩, _⟩ := h
  rcases h2 with ⟨hv, _⟩ | ⟨g, cap, cur, hv, _, hg, _⟩
  · cases hv
  · cases hv; exact unf_blk (t := e) (cs := cur) hg
theorem run_make_rowN {P : Program} {t e : TypeId} {z : Value} {size bytes : Nat} (ht : P.underlying t = some (.slice e)) (hinfo : (P.info? e).map (fun i => (i.zero, i.size, i.bytes)) = some (some z, size, bytes))
    (n : Nat) (hbytes : bytes * n ≤ 281474976710656) (h63 : n ≤ 9223372036854775807) (w : World) :
    (Instr.makeSlice t (.int .i64 (n : Int)) (.int .i64 (n : Int))).run P w = .ok (.slice (some ⟨w.heap.size, 0, none⟩) n n) (w.alloc (.cells (madeCells z.cells (n * size)) e)) := by
  obtain ⟨i, hi, hz, h1, h2⟩ := info_parts hinfo
  subst h1
  have hb : (i.bytes : Int) * (n : Int) ≤ 281474976710656 := by
    have h : ((i.bytes * n : Nat) : Int) ≤ 281474976710656 := by rw [h2]; omega
    rwa [Int.natCast_mul] at h
  have hr := run_make (P := P) w t e i z ht hi hz .i64 .i64 n n (by omega) (by omega) hb (by omega)
  simp only [Int.toNat_natCast] at hr
  exact hr

theorem run_slice_arr {P : Program} {t e : TypeId} {N s : Nat} (ht : P.underlying t = some (.array N e)) (hs : (P.info? e).map (·.size) = some s) (a : Addr) {n : Nat} (hn : n ≤ N) (w : World) :
    (Instr.sliceAt t (.pointer (some a)) none (some (.int .i64 (n : Int))) none).run P w = .ok (.slice (some a) n N) w := by
  obtain ⟨i, hi, hsz⟩ := Option.map_eq_some_iff.1 hs
  simp [Instr.sliceAt, Instr.sureAddr, run_underlying ht, Instr.sliceBounds, run_sliceBound, sizeOf, typeInfo, hi, hn, Addr.add]

theorem ret_bool {a b : Bool} (h : a = b) : Ending.returned (.bool a) = .returned (.bool b) := by rw [h]
theorem ret_int {k : IntKind} {a b : Int} (h : a = b) : Ending.returned (.int k a) = .returned (.int k b) := by rw [h]

/-- from the form's own reading of an argument -/
def Opens (P : Program) (t : TypeId) {α : Type} (E : Rp α) : Prop :=
  ∀ (H : Type) (enc : TypeId × Value → H) (w : World) (fuel : Nat) (cs : List Value) (x : DataW H × List MemPlace), DataW.trod enc P w 0 (fun _ => true) true fuel t cs = some x → ∃ y, E.R (Old w) w cs y

theorem opens_int {P : Program} {t : TypeId} {k : IntKind} (ht : P.underlying t = some (.int k)) : Opens P t (pI k) := by
  intro H enc w fuel cs x h
  obtain ⟨n, rfl, _, hw⟩ := DataW.trod_int ht h
  exact ⟨n, rfl, hw⟩
theorem opens_bool {P : Program} {t : TypeId} (ht : P.underlying t = some .bool) : Opens P t pB := by
  intro H enc w fuel cs x h
  obtain ⟨n, rfl, _⟩ := DataW.trod_bool ht h
  exact ⟨n, rfl⟩

theorem opens_slice {P : Program} {t e : TypeId} {α : Type} {E : Rp α} (ht : P.underlying t = some (.slice e)) (hs : P.cellsOf e = E.n) (hp : 0 < E.n) (hE : Opens P e E) : Opens P t (pSl E) := by
  classical
  intro H enc w fuel cs x h
  rcases DataW.trod_slice ht h with ⟨rfl, rfl⟩ | ⟨a, len, cap, elems, rest, n, rfl, rfl, rfl, _, hl, hm, hlen, hel, _⟩
  · exact ⟨[], none, 0, rfl, ⟨Nat.le_refl _, Nat.zero_le _, (fun _ => rfl), fun i x hx => by simp at hx⟩⟩
  · have each : ∀ i, i < len → ∃ y : α, ∃ cs, E.R (Old w) w cs y ∧ (a.add (i * E.n)).block < w.heap.size ∧ ∀ j c, cs[j]? = some c → w.cell? ((a.add (i * E.n)).add j) = some c := by
      intro i hi
      have h1 := hel i hi
      rw [List.getElem?_eq_getElem (by omega), Option.bind_eq_some_iff] at h1
      obtain ⟨cs', h2, h3⟩ := h1
      obtain ⟨y, hy⟩ := hE H enc w n cs' _ h3
      obtain ⟨_, h4, h5⟩ := World.cells?_some h2
      have hblk := World.cells?_block h2 (by omega)
      rw [hs] at hblk h4 h5
      refine ⟨y, cs', hy, hblk, fun j c hc => ?_⟩
      have hj : j < cs'.length := (List.getElem?_eq_some_iff.1 hc).1
      rw [h5 j (by omega), hc]
    rcases Nat.eq_zero_or_pos len with h0 | h0
    · subst h0
      exact ⟨[], some a, cap, rfl, ⟨Nat.zero_le _, hm, (fun e => by cases e), fun i x hx => by simp at hx⟩⟩
    · obtain ⟨y0, cs0, hy0, hb0, hc0⟩ := each 0 h0
      have hl0 := E.len hy0
      have hspot : a.spot = none := by
        have := hc0 0 cs0[0] (List.getElem?_eq_getElem (by omega))
        rw [Nat.zero_mul, Addr.add_zero', Addr.add_zero'] at this
        exact World.cell?_spot this
      obtain ⟨b, o, s⟩ := a
      subst hspot
      let f : Nat → α := fun i => if hi : i < len then Classical.choose (each i hi) else y0
      refine ⟨(List.range len).map f, some ⟨b, o, none⟩, cap, by simp, ⟨by simpa using hl, hm, (fun e => by cases e), fun i x hx => ?_⟩⟩
      have hi : i < len := by
        have := (List.getElem?_eq_some_iff.1 hx).1
        simpa using this
      have hfx : x = Classical.choose (each i hi) := by
        rw [List.getElem?_map, List.getElem?_range hi] at hx
        simp only [Option.map_some, Option.some.injEq] at hx
        rw [← hx]; simp only [f, dif_pos hi]
      obtain ⟨cs, h1, h2, h3⟩ := Classical.choose_spec (each i hi)
      rw [← hfx] at h1
      simp only [add_lit'] at h2 h3
      exact ⟨b, o, cs, rfl, h2, h1, h3⟩

/-! ### what calls leave -/
def BoolPost (b : Bool) (w : World) (e : Ending) (w' : World) : Prop := e = .returned (.bool b) ∧ Below w.heap.size w w'
def IntPost (x : Int) (w : World) (e : Ending) (w' : World) : Prop := e = .returned (.int .i64 x) ∧ Below w.heap.size w w'
def U64Post (x : Int) (w : World) (e : Ending) (w' : World) : Prop := e = .returned (.int .u64 x) ∧ Below w.heap.size w w'
def PairPost (x : Int × Int) (w : World) (e : Ending) (w' : World) : Prop := e = .returned (.tuple #[.int .i64 x.1, .int .i64 x.2]) ∧ Below w.heap.size w w'
def OkPost (w : World) (e : Ending) (w' : World) : Prop := e = .returned (.bool true) ∧ Below w.heap.size w w'
theorem ret_u64 {a b : Int} (h : a = b) : Ending.returned (.int .u64 a) = .returned (.int .u64 b) := by rw [h]

end Go.Proofs.YtckffdaomjbglaaDoor

/-! Ip -/
namespace Go.Proofs.YtckffdaomjbglaaDoor
open Go.RowKit

/-- how often a pair occurs, none of two that overlap: as the reference counts -/
def cntR (a b : Int) : List Int → Int
  | x :: y :: r => if x = a ∧ y = b then cntR a b r + 1 else cntR a b (y :: r)
  | [_] => 0
  | [] => 0
/-- as the program counts: the flag tells that the pair was counted one place earlier -/
def cntP (a b : Int) : Bool → List Int → Int
  | f, x :: y :: r => if x = a ∧ y = b then (if a = b ∧ f = true then cntP a b false (y :: r) else cntP a b true (y :: r) + 1) else cntP a b false (y :: r)
  | _, [_] => 0
  | _, [] => 0
theorem cntR_one (a b x : Int) : cntR a b [x] = 0 := by simp [cntR]
theorem cntR_nil (a b : Int) : cntR a b [] = 0 := by simp [cntR]
theorem cntP_one (a b x : Int) (f : Bool) : cntP a b f [x] = 0 := by simp [cntP]
theorem cntR_two (a b x y : Int) (r : List Int) : cntR a b (x :: y :: r) = if x = a ∧ y = b then cntR a b r + 1 else cntR a b (y :: r) := by simp [cntR]
theorem cntP_two (a b x y : Int) (f : Bool) (r : List Int) : cntP a b f (x :: y :: r) = if x = a ∧ y = b then (if a = b ∧ f = true then cntP a b false (y :: r) else cntP a b true (y :: r) + 1) else cntP a b false (y :: r) := by simp [cntP]
theorem cntP_both (a b : Int) : ∀ n (l : List Int), l.length ≤ n → cntP a b false l = cntR a b l ∧ ∀ r, l = b :: r → cntP a b true l = cntR a b r
  | 0, l, h => by
    have : l = [] := List.length_eq_zero_iff.1 (by omega)
    subst this
    exact ⟨by simp [cntP, cntR], fun r hr => by cases hr⟩
  | n + 1, [], _ => ⟨by simp [cntP, cntR], fun r hr => by cases hr⟩
  | n + 1, [x], _ => ⟨by rw [cntP_one, cntR_one], fun r hr => by
      injection hr with _ h2
      rw [← h2, cntP_one, cntR_nil]⟩
  | n + 1, x :: y :: r, h => by
    simp only [List.length_cons] at h
    have h1 := cntP_both a b n (y :: r) (by simp only [List.length_cons]; omega)
    refine ⟨?_, fun r' hr => ?_⟩
    · rw [cntP_two, cntR_two]
      by_cases hm : x = a ∧ y = b
      · rw [if_pos hm, if_pos hm, if_neg (by simp), h1.2 r (by rw [hm.2])]
      · rw [if_neg hm, if_neg hm, h1.1]
    · injection hr with hx hr'
      subst hx
      subst hr'
      rw [cntP_two]
      by_cases hm : x = a ∧ y = x
      · rw [if_pos hm, if_pos ⟨hm.1.symm, rfl⟩, h1.1]
      · rw [if_neg hm, h1.1]
theorem cntP_eq (a b : Int) (l : List Int) : cntP a b false l = cntR a b l := (cntP_both a b l.length l (Nat.le_refl _)).1
theorem cntR_nonneg (a b : Int) : ∀ n (l : List Int), l.length ≤ n → 0 ≤ cntR a b l ∧ cntR a b l ≤ l.length
  | 0, l, h => by
    have : l = [] := List.length_eq_zero_iff.1 (by omega)
    subst this; rw [cntR_nil]; simp
  | n + 1, [], _ => by rw [cntR_nil]; simp
  | n + 1, [x], _ => by rw [cntR_one]; simp
  | n + 1, x :: y :: r, h => by
    simp only [List.length_cons] at h
    have h1 := cntR_nonneg a b n (y :: r) (by simp only [List.length_cons]; omega)
    have h2 := cntR_nonneg a b n r (by omega)
    rw [cntR_two]
    simp only [List.length_cons] at h1 ⊢
    split <;> omega
/-- a pair that stands somewhere is counted at least once -/
theorem cntR_pos (a b : Int) : ∀ n (l : List Int) (i : Nat), l.length ≤ n → l[i]? = some a → l[i + 1]? = some b → 1 ≤ cntR a b l
  | 0, l, i, h, h1, _ => by have := (List.getElem?_eq_some_iff.1 h1).1; omega
  | n + 1, [], i, _, h1, _ => by simp at h1
  | n + 1, [x], i, _, h1, h2 => by have := (List.getElem?_eq_some_iff.1 h2).1; simp at this
  | n + 1, x :: y :: r, i, h, h1, h2 => by
    simp only [List.length_cons] at h
    rw [cntR_two]
    by_cases hm : x = a ∧ y = b
    · rw [if_pos hm]; have := (cntR_nonneg a b r.length r (Nat.le_refl _)).1; omega
    · rw [if_neg hm]
      cases i with
      | zero => simp at h1 h2; exact absurd ⟨h1, h2⟩ hm
      | succ i => exact cntR_pos a b n (y :: r) i (by simp only [List.length_cons]; omega) (by simpa using h1) (by simpa using h2)

/-! ### which occurs most -/
/-- is (x, y), m times, ahead of (a, b), n times? -/
def ahead (a b n x y m : Int) : Bool := decide (n < m) || (m == n && (decide (x < a) || (x == a && decide (y < b))))
/-- the best of the pairs in S, c how often each -/
structure BestOf (S : Int → Int → Prop) (c : Int → Int → Int) (a b n : Int) : Prop where
  none : n = 0 → a = 0 ∧ b = 0 ∧ ∀ x y, ¬ S x y
  some : n ≠ 0 → S a b ∧ n = c a b
  best : ∀ x y, S x y → ahead a b n x y (c x y) = false
theorem ahead_iff {a b n x y m : Int} : ahead a b n x y m = true ↔ n < m ∨ (m = n ∧ (x < a ∨ (x = a ∧ y < b))) := by
  unfold ahead; simp
theorem ahead_not {a b n x y m : Int} : ahead a b n x y m = false ↔ ¬ (n < m ∨ (m = n ∧ (x < a ∨ (x = a ∧ y < b)))) := by
  rw [← ahead_iff, Bool.not_eq_true]
theorem BestOf.one {S : Int → Int → Prop} {c : Int → Int → Int} {a b n a' b' n' : Int} (h : BestOf S c a b n) (h' : BestOf S c a' b' n') : a = a' ∧ b = b' ∧ n = n' := by
  by_cases h0 : n = 0
  · obtain ⟨h1, h2, h3⟩ := h.none h0
    by_cases h0' : n' = 0
    · obtain ⟨h1', h2', _⟩ := h'.none h0'; exact ⟨by omega, by omega, by omega⟩
    · exact absurd (h'.some h0').1 (h3 _ _)
  · obtain ⟨h1, h2⟩ := h.some h0
    by_cases h0' : n' = 0
    · exact absurd h1 ((h'.none h0').2.2 _ _)
    · obtain ⟨h1', h2'⟩ := h'.some h0'
      have e1 := ahead_not.1 (h.best _ _ h1')
      have e2 := ahead_not.1 (h'.best _ _ h1)
      rw [← h2'] at e1
      rw [← h2] at e2
      omega
theorem BestOf.start (c : Int → Int → Int) : BestOf (fun _ _ => False) c 0 0 0 := ⟨fun _ => ⟨rfl, rfl, fun _ _ h => h⟩, fun h => absurd rfl h, fun _ _ h => h.elim⟩
/-- one pair more is looked at -/
theorem BestOf.more {S : Int → Int → Prop} {c : Int → Int → Int} {a b n x y : Int} (h : BestOf S c a b n) (_hn : 0 ≤ n) (hc : 0 < c x y) :
    (ahead a b n x y (c x y) = true → BestOf (fun u v => S u v ∨ (u = x ∧ v = y)) c x y (c x y)) ∧ (ahead a b n x y (c x y) = false → BestOf (fun u v => S u v ∨ (u = x ∧ v = y)) c a b n) := by
  refine ⟨fun ha => ⟨fun h0 => by omega, fun _ => ⟨.inr ⟨rfl, rfl⟩, rfl⟩, fun u v huv => ?_⟩, fun ha => ⟨fun h0 => ?_, fun h0 => ?_, fun u v huv => ?_⟩⟩
  · rcases huv with huv | ⟨rfl, rfl⟩
    · have e1 := ahead_not.1 (h.best _ _ huv)
      have e2 := ahead_iff.1 ha
      refine ahead_not.2 ?_
      omega
    · refine ahead_not.2 ?_; omega
  · have := ahead_not.1 ha; omega
  · exact ⟨.inl (h.some h0).1, (h.some h0).2⟩
  · rcases huv with huv | ⟨rfl, rfl⟩
    · exact h.best _ _ huv
    · exact ha
theorem BestOf.congr {S S' : Int → Int → Prop} {c : Int → Int → Int} {a b n : Int} (h : BestOf S c a b n) (hS : ∀ x y, S x y ↔ S' x y) : BestOf S' c a b n :=
  ⟨fun h0 => ⟨(h.none h0).1, (h.none h0).2.1, fun x y hx => (h.none h0).2.2 x y ((hS x y).2 hx)⟩, fun h0 => ⟨(hS _ _).1 (h.some h0).1, (h.some h0).2⟩, fun x y hx => h.best x y ((hS x y).2 hx)⟩
end Go.Proofs.YtckffdaomjbglaaDoor

/-! Rep -/
namespace Go.Proofs.YtckffdaomjbglaaDoor
open Go.RowKit

structure Mod where
  name : Int
  args : List Int
  deriving DecidableEq, Inhabited
structure Frm where
  const : Int
  coefs : List Int
  deriving DecidableEq, Inhabited
structure Shp where
  name : Int
  args : List Frm
  deriving DecidableEq, Inhabited
structure Rul where
  name : Int
  arity : Int
  left : Int
  right : Int
  guards : List Frm
  weight : Int
  out : List Shp
  deriving DecidableEq, Inhabited

def pMod : Rp Mod where
  n := 2
  R F w cs m := ∃ A c, cs = [.int .u8 m.name, .slice A m.args.length c] ∧ Fits .u8 m.name ∧ SlAt (pI .i64) F w A c m.args
  len := by rintro F w cs x ⟨A, c, rfl, _⟩; rfl
  keep := by rintro F w w' cs x ⟨A, c, rfl, h1, h2⟩ k; exact ⟨A, c, rfl, h1, h2.keep k⟩
  wide := by rintro F F' w cs x ⟨A, c, rfl, h1, h2⟩ k; exact ⟨A, c, rfl, h1, h2.wide k⟩
  one := by
    rintro F w cs x ⟨A, c, rfl, _⟩ v hv
    simp at hv; rcases hv with rfl | rfl <;> rfl

def pFrm : Rp Frm where
  n := 2
  R F w cs m := ∃ A c, cs = [.int .i64 m.const, .slice A m.coefs.length c] ∧ Fits .i64 m.const ∧ SlAt (pI .i64) F w A c m.coefs
  len := by rintro F w cs x ⟨A, c, rfl, _⟩; rfl
  keep := by rintro F w w' cs x ⟨A, c, rfl, h1, h2⟩ k; exact ⟨A, c, rfl, h1, h2.keep k⟩
  wide := by rintro F F' w cs x ⟨A, c, rfl, h1, h2⟩ k; exact ⟨A, c, rfl, h1, h2.wide k⟩
  one := by
    rintro F w cs x ⟨A, c, rfl, _⟩ v hv
    simp at hv; rcases hv with rfl | rfl <;> rfl

def pShp : Rp Shp where
  n := 2
  R F w cs m := ∃ A c, cs = [.int .u8 m.name, .slice A m.args.length c] ∧ Fits .u8 m.name ∧ SlAt pFrm F w A c m.args
  len := by rintro F w cs x ⟨A, c, rfl, _⟩; rfl
  keep := by rintro F w w' cs x ⟨A, c, rfl, h1, h2⟩ k; exact ⟨A, c, rfl, h1, h2.keep k⟩
  wide := by rintro F F' w cs x ⟨A, c, rfl, h1, h2⟩ k; exact ⟨A, c, rfl, h1, h2.wide k⟩
  one := by
    rintro F w cs x ⟨A, c, rfl, _⟩ v hv
    simp at hv; rcases hv with rfl | rfl <;> rfl

def pRul : Rp Rul where
  n := 7
  R F w cs m := ∃ A c A' c', cs = [.int .u8 m.name, .int .i64 m.arity, .int .u8 m.left, .int .u8 m.right, .slice A m.guards.length c, .int .i64 m.weight, .slice A' m.out.length c'] ∧
    (Fits .u8 m.name ∧ Fits .i64 m.arity ∧ Fits .u8 m.left ∧ Fits .u8 m.right ∧ Fits .i64 m.weight) ∧ SlAt pFrm F w A c m.guards ∧ SlAt pShp F w A' c' m.out
  len := by rintro F w cs x ⟨A, c, A', c', rfl, _⟩; rfl
  keep := by rintro F w w' cs x ⟨A, c, A', c', rfl, h1, h2, h3⟩ k; exact ⟨A, c, A', c', rfl, h1, h2.keep k, h3.keep k⟩
  wide := by rintro F F' w cs x ⟨A, c, A', c', rfl, h1, h2, h3⟩ k; exact ⟨A, c, A', c', rfl, h1, h2.wide k, h3.wide k⟩
  one := by
    rintro F w cs x ⟨A, c, A', c', rfl, _⟩ v hv
    simp at hv; rcases hv with rfl | rfl | rfl | rfl | rfl | rfl | rfl <;> rfl

/-- a module whose arguments may be written -/
def pModF : Rp Mod where
  n := 2
  R F w cs m := ∃ A c, cs = [.int .u8 m.name, .slice A m.args.length c] ∧ Fits .u8 m.name ∧ SlAt (pI .i64) F w A c m.args ∧ (m.args ≠ [] → ∀ b o, A = some ⟨b, o, none⟩ → Unf w b)
  len := by rintro F w cs x ⟨A, c, rfl, _⟩; rfl
  keep := by
    rintro F w w' cs x ⟨A, c, rfl, h1, h2, h3⟩ k
    refine ⟨A, c, rfl, h1, h2.keep k, fun hne b o hA => unf_same (h3 hne b o hA) ?_⟩
    obtain ⟨b', o', _, _, hA', hF, _⟩ := h2.getI (i := 0) (List.length_pos_iff.2 hne)
    rw [hA] at hA'; cases hA'; exact k _ ‹_›
  wide := by rintro F F' w cs x ⟨A, c, rfl, h1, h2, h3⟩ k; exact ⟨A, c, rfl, h1, h2.wide k, h3⟩
  one := by
    rintro F w cs x ⟨A, c, rfl, _⟩ v hv
    simp at hv; rcases hv with rfl | rfl <;> rfl
theorem slAt_modF {F : Nat → Prop} {w : World} {A : Option Addr} {cap : Nat} {xs : List Mod} (h : SlAt pModF F w A cap xs) : SlAt pMod F w A cap xs :=
  ⟨h.le, h.mx, h.nil, fun i x hx => by
    obtain ⟨b, o, cs, h1, h2, ⟨A', c', h3, h4, h5, _⟩, h6⟩ := h.el i x hx
    exact ⟨b, o, cs, h1, h2, ⟨A', c', h3, h4, h5⟩, h6⟩⟩

section
variable {F : Nat → Prop} {w : World} {A : Option Addr} {cap : Nat}
/-- element i of a word -/
theorem SlAt.getMod {xs : List Mod} (h : SlAt pMod F w A cap xs) {i : Nat} (hi : i < xs.length) :
    ∃ b o A' c' m, Hid (xs.drop i = m :: xs.drop (i + 1)) ∧ A = some ⟨b, o, none⟩ ∧ F b ∧ w.cell? ⟨b, o + i * 2, none⟩ = some (.int .u8 m.name) ∧ w.cell? ⟨b, o + i * 2 + 1, none⟩ = some (.slice A' m.args.length c') ∧
      Fits .u8 m.name ∧ Hid (SlAt (pI .i64) F w A' c' m.args) ∧ m.args.length ≤ 9223372036854775807 := by
  obtain ⟨b, o, cs, x, h0, h1, h2, ⟨A', c', rfl, h3, h5⟩, h4⟩ := h.get hi
  exact ⟨b, o, A', c', x, h0, h1, h2, by simpa [pMod] using h4 0 _ rfl, by simpa [pMod] using h4 1 _ rfl, h3, h5, h5.lenle.1⟩
theorem SlAt.getFrm {xs : List Frm} (h : SlAt pFrm F w A cap xs) {i : Nat} (hi : i < xs.length) :
    ∃ b o A' c' m, Hid (xs.drop i = m :: xs.drop (i + 1)) ∧ A = some ⟨b, o, none⟩ ∧ F b ∧ w.cell? ⟨b, o + i * 2, none⟩ = some (.int .i64 m.const) ∧ w.cell? ⟨b, o + i * 2 + 1, none⟩ = some (.slice A' m.coefs.length c') ∧
      Fits .i64 m.const ∧ Hid (SlAt (pI .i64) F w A' c' m.coefs) ∧ m.coefs.length ≤ 9223372036854775807 := by
  obtain ⟨b, o, cs, x, h0, h1, h2, ⟨A', c', rfl, h3, h5⟩, h4⟩ := h.get hi
  exact ⟨b, o, A', c', x, h0, h1, h2, by simpa [pFrm] using h4 0 _ rfl, by simpa [pFrm] using h4 1 _ rfl, h3, h5, h5.lenle.1⟩
theorem SlAt.getShp {xs : List Shp} (h : SlAt pShp F w A cap xs) {i : Nat} (hi : i < xs.length) :
    ∃ b o A' c' m, Hid (xs.drop i = m :: xs.drop (i + 1)) ∧ A = some ⟨b, o, none⟩ ∧ F b ∧ w.cell? ⟨b, o + i * 2, none⟩ = some (.int .u8 m.name) ∧ w.cell? ⟨b, o + i * 2 + 1, none⟩ = some (.slice A' m.args.length c') ∧
      Fits .u8 m.name ∧ Hid (SlAt pFrm F w A' c' m.args) ∧ m.args.length ≤ 9223372036854775807 := by
  obtain ⟨b, o, cs, x, h0, h1, h2, ⟨A', c', rfl, h3, h5⟩, h4⟩ := h.get hi
  exact ⟨b, o, A', c', x, h0, h1, h2, by simpa [pShp] using h4 0 _ rfl, by simpa [pShp] using h4 1 _ rfl, h3, h5, h5.lenle.1⟩
theorem SlAt.getRul {xs : List Rul} (h : SlAt pRul F w A cap xs) {i : Nat} (hi : i < xs.length) :
    ∃ b o A' c' A'' c'' m, Hid (xs.drop i = m :: xs.drop (i + 1)) ∧ A = some ⟨b, o, none⟩ ∧ F b ∧
      w.cell? ⟨b, o + i * 7, none⟩ = some (.int .u8 m.name) ∧ w.cell? ⟨b, o + i * 7 + 1, none⟩ = some (.int .i64 m.arity) ∧ w.cell? ⟨b, o + i * 7 + 2, none⟩ = some (.int .u8 m.left) ∧ w.cell? ⟨b, o + i * 7 + 3, none⟩ = some (.int .u8 m.right) ∧
      w.cell? ⟨b, o + i * 7 + 4, none⟩ = some (.slice A' m.guards.length c') ∧ w.cell? ⟨b, o + i * 7 + 5, none⟩ = some (.int .i64 m.weight) ∧ w.cell? ⟨b, o + i * 7 + 6, none⟩ = some (.slice A'' m.out.length c'') ∧
      (Fits .u8 m.name ∧ Fits .i64 m.arity ∧ Fits .u8 m.left ∧ Fits .u8 m.right ∧ Fits .i64 m.weight) ∧ Hid (SlAt pFrm F w A' c' m.guards) ∧ Hid (SlAt pShp F w A'' c'' m.out) ∧
      m.guards.length ≤ 9223372036854775807 ∧ m.out.length ≤ 9223372036854775807 := by
  obtain ⟨b, o, cs, x, h0, h1, h2, ⟨A', c', A'', c'', rfl, h3, h5, h6⟩, h4⟩ := h.get hi
  exact ⟨b, o, A', c', A'', c'', x, h0, h1, h2, by simpa [pRul] using h4 0 _ rfl, by simpa [pRul] using h4 1 _ rfl, by simpa [pRul] using h4 2 _ rfl, by simpa [pRul] using h4 3 _ rfl, by simpa [pRul] using h4 4 _ rfl, by simpa [pRul] using h4 5 _ rfl, by simpa [pRul] using h4 6 _ rfl,
    h3, h5, h6, h5.lenle.1, h6.lenle.1⟩
end

section
variable {P : Program} {t : TypeId}
theorem opens_field {H : Type} {enc : TypeId × Value → H} {w : World} {n : Nat} {cs : List Value} {xs : List (DataW H × List MemPlace)} {α : Type} {E : Rp α} {fs : Array Field} (hlen : xs.length = fs.size) {i : Nat} {f : Field} (hf : fs[i]? = some f)
    (h : DataW.trod enc P w 0 (fun _ => true) true n f.type ((cs.drop f.offset).take (P.cellsOf f.type)) = xs[i]?) (hE : Opens P f.type E) : ∃ y, E.R (Old w) w ((cs.drop f.offset).take (P.cellsOf f.type)) y := by
  have hi : i < xs.length := by rw [hlen]; exact (Array.getElem?_eq_some_iff.1 hf).1
  rw [List.getElem?_eq_getElem hi] at h
  exact hE H enc w n _ _ h
theorem opens_mod {f0 f1 : Field} (ht : P.underlying t = some (.struct #[f0, f1])) (hc : P.cellsOf t = 2) (h0 : f0.offset = 0 ∧ P.cellsOf f0.type = 1) (h1 : f1.offset = 1 ∧ P.cellsOf f1.type = 1)
    (o0 : Opens P f0.type (pI .u8)) (o1 : Opens P f1.type (pSl (pI .i64))) : Opens P t pMod := by
  intro H enc w fuel cs x h
  obtain ⟨xs, n, rfl, rfl, hl, hlen, hf⟩ := DataW.trod_struct ht h
  rw [hc] at hl
  match cs, hl with
  | [c0, c1], _ =>
    obtain ⟨y0, hy0⟩ := opens_field (f := f0) hlen (i := 0) rfl (hf 0 f0 rfl) o0
    obtain ⟨y1, hy1⟩ := opens_field (f := f1) hlen (i := 1) rfl (hf 1 f1 rfl) o1
    rw [h0.1, h0.2] at hy0
    rw [h1.1, h1.2] at hy1
    obtain ⟨e0, z0⟩ := hy0
    obtain ⟨A, c, e1, s1⟩ := hy1
    simp at e0 e1
    subst e0 e1
    exact ⟨⟨y0, y1⟩, A, c, rfl, z0, s1⟩
theorem opens_frm {f0 f1 : Field} (ht : P.underlying t = some (.struct #[f0, f1])) (hc : P.cellsOf t = 2) (h0 : f0.offset = 0 ∧ P.cellsOf f0.type = 1) (h1 : f1.offset = 1 ∧ P.cellsOf f1.type = 1)
    (o0 : Opens P f0.type (pI .i64)) (o1 : Opens P f1.type (pSl (pI .i64))) : Opens P t pFrm := by
  intro H enc w fuel cs x h
  obtain ⟨xs, n, rfl, rfl, hl, hlen, hf⟩ := DataW.trod_struct ht h
  rw [hc] at hl
  match cs, hl with
  | [c0, c1], _ =>
    obtain ⟨y0, hy0⟩ := opens_field (f := f0) hlen (i := 0) rfl (hf 0 f0 rfl) o0
    obtain ⟨y1, hy1⟩ := opens_field (f := f1) hlen (i := 1) rfl (hf 1 f1 rfl) o1
    rw [h0.1, h0.2] at hy0
    rw [h1.1, h1.2] at hy1
    obtain ⟨e0, z0⟩ := hy0
    obtain ⟨A, c, e1, s1⟩ := hy1
    simp at e0 e1
    subst e0 e1
    exact ⟨⟨y0, y1⟩, A, c, rfl, z0, s1⟩
theorem opens_shp {f0 f1 : Field} (ht : P.underlying t = some (.struct #[f0, f1])) (hc : P.cellsOf t = 2) (h0 : f0.offset = 0 ∧ P.cellsOf f0.type = 1) (h1 : f1.offset = 1 ∧ P.cellsOf f1.type = 1)
    (o0 : Opens P f0.type (pI .u8)) (o1 : Opens P f1.type (pSl pFrm)) : Opens P t pShp := by
  intro H enc w fuel cs x h
  obtain ⟨xs, n, rfl, rfl, hl, hlen, hf⟩ := DataW.trod_struct ht h
  rw [hc] at hl
  match cs, hl with
  | [c0, c1], _ =>
    obtain ⟨y0, hy0⟩ := opens_field (f := f0) hlen (i := 0) rfl (hf 0 f0 rfl) o0
    obtain ⟨y1, hy1⟩ := opens_field (f := f1) hlen (i := 1) rfl (hf 1 f1 rfl) o1
    rw [h0.1, h0.2] at hy0
    rw [h1.1, h1.2] at hy1
    obtain ⟨e0, z0⟩ := hy0
    obtain ⟨A, c, e1, s1⟩ := hy1
    simp at e0 e1
    subst e0 e1
    exact ⟨⟨y0, y1⟩, A, c, rfl, z0, s1⟩
theorem opens_rul {f0 f1 f2 f3 f4 f5 f6 : Field} (ht : P.underlying t = some (.struct #[f0, f1, f2, f3, f4, f5, f6])) (hc : P.cellsOf t = 7)
    (ho : [f0, f1, f2, f3, f4, f5, f6].map (fun f => (f.offset, P.cellsOf f.type)) = [(0, 1), (1, 1), (2, 1), (3, 1), (4, 1), (5, 1), (6, 1)])
    (o0 : Opens P f0.type (pI .u8)) (o1 : Opens P f1.type (pI .i64)) (o2 : Opens P f2.type (pI .u8)) (o3 : Opens P f3.type (pI .u8)) (o4 : Opens P f4.type (pSl pFrm)) (o5 : Opens P f5.type (pI .i64)) (o6 : Opens P f6.type (pSl pShp)) : Opens P t pRul := by
  intro H enc w fuel cs x h
  simp only [List.map_cons, List.map_nil, List.cons.injEq, Prod.mk.injEq, and_true] at ho
  obtain ⟨a0, a1, a2, a3, a4, a5, a6⟩ := ho
  obtain ⟨xs, n, rfl, rfl, hl, hlen, hf⟩ := DataW.trod_struct ht h
  rw [hc] at hl
  match cs, hl with
  | [c0, c1, c2, c3, c4, c5, c6], _ =>
    obtain ⟨y0, hy0⟩ := opens_field (f := f0) hlen (i := 0) rfl (hf 0 f0 rfl) o0
    obtain ⟨y1, hy1⟩ := opens_field (f := f1) hlen (i := 1) rfl (hf 1 f1 rfl) o1
    obtain ⟨y2, hy2⟩ := opens_field (f := f2) hlen (i := 2) rfl (hf 2 f2 rfl) o2
    obtain ⟨y3, hy3⟩ := opens_field (f := f3) hlen (i := 3) rfl (hf 3 f3 rfl) o3
    obtain ⟨y4, hy4⟩ := opens_field (f := f4) hlen (i := 4) rfl (hf 4 f4 rfl) o4
    obtain ⟨y5, hy5⟩ := opens_field (f := f5) hlen (i := 5) rfl (hf 5 f5 rfl) o5
    obtain ⟨y6, hy6⟩ := opens_field (f := f6) hlen (i := 6) rfl (hf 6 f6 rfl) o6
    rw [a0.1, a0.2] at hy0
    rw [a1.1, a1.2] at hy1
    rw [a2.1, a2.2] at hy2
    rw [a3.1, a3.2] at hy3
    rw [a4.1, a4.2] at hy4
    rw [a5.1, a5.2] at hy5
    rw [a6.1, a6.2] at hy6
    obtain ⟨e0, z0⟩ := hy0
    obtain ⟨e1, z1⟩ := hy1
    obtain ⟨e2, z2⟩ := hy2
    obtain ⟨e3, z3⟩ := hy3
    obtain ⟨A, c, e4, s4⟩ := hy4
    obtain ⟨e5, z5⟩ := hy5
    obtain ⟨A', c', e6, s6⟩ := hy6
    simp at e0 e1 e2 e3 e4 e5 e6
    subst e0 e1 e2 e3 e4 e5 e6
    exact ⟨⟨y0, y1, y2, y3, y4, y5, y6⟩, A, c, A', c', rfl, ⟨z0, z1, z2, z3, z5⟩, s4, s6⟩
end

end Go.Proofs.YtckffdaomjbglaaDoor

/-! Wa -/
namespace Go.Proofs.YtckffdaomjbglaaDoor
open Go.RowKit

def symL : List Int := [43, 45, 38, 94, 124, 33, 91, 93]
def symB (c : Int) : Bool := symL.contains c
def upB (c : Int) : Bool := decide (65 ≤ c) && decide (c ≤ 90)
def loB (c : Int) : Bool := decide (97 ≤ c) && decide (c ≤ 122)
def letterB (c : Int) : Bool := upB c || loB c || symB c
def argOk (x : Int) : Bool := decide (-1000000000 ≤ x) && decide (x ≤ 1000000000)
def shapeOk (m : Mod) : Bool := m.args.length == 0 || (decide (m.args.length ≤ 4) && m.name != 91 && m.name != 93)
def fineF (m : Mod) : Bool := letterB m.name && m.args.all argOk && shapeOk m
/-- how many brackets are open in the end; none: a ] came first -/
def scan (n : Nat) : List Mod → Option Nat
  | [] => some n
  | m :: ms => if m.name = 91 then scan (n + 1) ms else if m.name = 93 then (if n = 0 then none else scan (n - 1) ms) else scan n ms
def checkF (w : List Mod) : Int :=
  if 2000 < w.length then 4 else if w.all fineF = false then 8 else match scan 0 w with
  | none => 28
  | some n => if 0 < n then 28 else 0

def symS : ByteArray := ⟨#[43, 45, 38, 94, 124, 33, 91, 93]⟩
theorem sym_index : ∀ n : Fin 256, (decide (Lib.indexByte [43, 45, 38, 94, 124, 33, 91, 93] n.val.toUInt8 < 0)) = !symB (n.val : Int) := by decide +kernel
set_option maxRecDepth 100000 in
theorem indexByte_calls (s : ByteArray) (c : Int) (w : World) : Calls Tryd.prog 53 #[.string s, .int .u8 c] w fun e w' => e = .returned (.int .i64 (Lib.indexByte s.data.toList c.toNat.toUInt8)) ∧ w = w' := by
  go_enter Tryd.func53, Tryd.ntmps53
  go_wp2
  rw [run_callFunc_extern Tryd.func77 (by kernel_rfl) (by kernel_rfl) (by kernel_rfl) (e := Extern.BytealgIndexByte.indexByte) (by kernel_rfl), Lib.run_indexByteString]
  simp only [Result.andThen]
  rw [Oper.upon_value]
  go_wp2
  go_ret
  exact ⟨rfl, rfl⟩

def symIx (c : Int) : Int := Lib.indexByte [43, 45, 38, 94, 124, 33, 91, 93] c.toNat.toUInt8
theorem symIx_neg {c : Int} (h0 : 0 ≤ c) (h1 : c ≤ 255) : symIx c < 0 ↔ symB c = false := by
  obtain ⟨n, rfl⟩ := Int.eq_ofNat_of_zero_le h0
  have := sym_index ⟨n, by omega⟩
  unfold symIx
  simp only [Int.toNat_natCast] at this ⊢
  rw [← decide_eq_true_iff (p := _ < (0 : Int)), this]; simp
theorem symIx_calls (c : Int) (w : World) : Calls Tryd.prog 53 #[.string ⟨#[43, 45, 38, 94, 124, 33, 91, 93]⟩, .int .u8 c] w fun e w' => e = .returned (.int .i64 (symIx c)) ∧ w = w' := indexByte_calls _ _ _

def FinePost (m : Mod) (w : World) (e : Ending) (w' : World) : Prop := e = .returned (.bool (fineF m)) ∧ Below w.heap.size w w'
theorem argOk_no {x : Int} (h : x < -1000000000 ∨ 1000000000 < x) : argOk x = false := by unfold argOk; simp; omega
theorem argOk_yes {x : Int} (h0 : ¬ x < -1000000000) (h1 : ¬ 1000000000 < x) : argOk x = true := by unfold argOk; simp; omega

set_option maxRecDepth 100000 in
set_option maxHeartbeats 4000000 in
theorem fine_calls {F : Nat → Prop} (A : Option Addr) (c : Nat) (m : Mod) (w : World) (h : SlAt (pI .i64) F w A c m.args) (hF : ∀ k, F k → k < w.heap.size) (hn : Fits .u8 m.name) :
    Calls Tryd.prog 39 #[.agg #[.int .u8 m.name, .slice A m.args.length c]] w (FinePost m w) := by
  obtain ⟨nm, args⟩ := m
  simp only at h hn ⊢
  have hb8 := hn.u8
  have hmx := h.lenle
  have H := Lib.hid h; clear h
  have HF := Lib.hid hF; clear hF
  have hsx := symIx_neg hb8.1 hb8.2
  have Hsx := Lib.hid hsx; clear hsx
  cases hlt : letterB nm
  · have hno := hlt
    unfold letterB at hno
    rw [Bool.or_eq_false_iff, Bool.or_eq_false_iff] at hno
    have hs := Hsx.out.2 hno.2
    have hup : nm < 65 ∨ 90 < nm := by have := hno.1.1; unfold upB at this; simp at this; omega
    have hlo : nm < 97 ∨ 122 < nm := by have := hno.1.2; unfold loB at this; simp at this; omega
    clear hno
    have Hlt := Lib.hid hlt; clear hlt
    have hres : FinePost ⟨nm, args⟩ w (.returned (.bool false)) (w.alloc (.cells #[.int .u8 nm, .slice A args.length c] 50)) :=
      ⟨by unfold fineF; rw [Hlt.out]; rfl, (Below.refl _ _).alloc (Nat.le_refl _) _⟩
    have Hres := Lib.hid hres; clear hres
    have h3 : nm < 65 ∨ (90 < nm ∧ nm < 97) ∨ 122 < nm := by omega
    clear hup hlo
    rcases h3 with h3 | ⟨h3, h4⟩ | h3
    · by_cases h0 : nm = 0
      · have e0 : (nm == 0) = true := by simp [h0]
        clear h0
        go_enter Tryd.func39, Tryd.ntmps39
        go_wp2_with (go_at_call 53; refine (symIx_calls _ _).mono ?_; rintro e w' ⟨rfl, rfl⟩)
        go_ret
        exact Hres.out
      · have e0 : (nm == 0) = false := by simp [h0]
        clear h0
        go_enter Tryd.func39, Tryd.ntmps39
        go_wp2_with (go_at_call 53; refine (symIx_calls _ _).mono ?_; rintro e w' ⟨rfl, rfl⟩)
        go_ret
        exact Hres.out
    · have e0 : (nm == 0) = false := by simp; omega
      go_enter Tryd.func39, Tryd.ntmps39
      go_wp2_with (go_at_call 53; refine (symIx_calls _ _).mono ?_; rintro e w' ⟨rfl, rfl⟩)
      go_ret
      exact Hres.out
    · have e0 : (nm == 0) = false := by simp; omega
      go_enter Tryd.func39, Tryd.ntmps39
      go_wp2_with (go_at_call 53; refine (symIx_calls _ _).mono ?_; rintro e w' ⟨rfl, rfl⟩)
      go_ret
      exact Hres.out
  · have hcase : (65 ≤ nm ∧ nm ≤ 90) ∨ (97 ≤ nm ∧ nm ≤ 122) ∨ (nm < 65 ∧ ¬ symIx nm < 0 ∧ ((nm == 0) = false)) ∨ (90 < nm ∧ nm < 97 ∧ ¬ symIx nm < 0 ∧ ((nm == 0) = false)) ∨ (122 < nm ∧ ¬ symIx nm < 0 ∧ ((nm == 0) = false)) := by
      unfold letterB at hlt
      rw [Bool.or_eq_true, Bool.or_eq_true] at hlt
      rcases hlt with (hu | hl) | hs
      · unfold upB at hu; simp at hu; omega
      · unfold loB at hl; simp at hl; omega
      · have h1 : ¬ symIx nm < 0 := by rw [Hsx.out, hs]; decide
        have h2 : nm ≠ 0 := by rintro rfl; revert hs; decide
        have h3 : (nm == 0) = false := by simp [h2]
        by_cases h4 : nm < 65
        · exact .inr (.inr (.inl ⟨h4, h1, h3⟩))
        · by_cases h5 : nm ≤ 90
          · exact .inl ⟨by omega, h5⟩
          · by_cases h6 : nm < 97
            · exact .inr (.inr (.inr (.inl ⟨by omega, h6, h1, h3⟩)))
            · by_cases h7 : nm ≤ 122
              · exact .inr (.inl ⟨by omega, h7⟩)
              · exact .inr (.inr (.inr (.inr ⟨by omega, h1, h3⟩)))
    have Hlt := Lib.hid hlt; clear hlt
    go_enter Tryd.func39, Tryd.ntmps39
    rcases hcase with ⟨h1, h2⟩ | ⟨h1, h2⟩ | ⟨h1, h2, h3⟩ | ⟨h1, h2, h3, h4⟩ | ⟨h1, h2, h3⟩
    all_goals
      go_wp2_with (go_at_call 53; refine (symIx_calls _ _).mono ?_; rintro e w' ⟨rfl, rfl⟩)
      clear h1 h2
      try clear h3
      try clear h4
      have hkp : ∀ k, F k → (w.alloc (.cells #[.int .u8 nm, .slice A args.length c] 50)).heap[k]? = w.heap[k]? := fun k hk => Below.heap_alloc _ _ _ (HF.out k hk)
      have H2 := Lib.hid (H.out.keep hkp)
      clear hkp
      go_loop [34] (fun i => ∃ k : Nat, k ≤ args.length ∧ i = .int .i64 k ∧ Hid (args.all argOk = (args.drop k).all argOk)) (fun i => args.length - (intOf i).toNat)
      case atStart => exact ⟨0, Nat.zero_le _, rfl, rfl⟩
      case round =>
        obtain ⟨k, hk, rfl, hall⟩ := hrel
        by_cases hlt : k < args.length
        · obtain ⟨b, o, x, hd, rfl, _, hcx, _⟩ := H2.out.getI hlt
          by_cases hx0 : x < -1000000000
          · go_wp2
            go_ret
            refine ⟨ret_bool ?_, (Below.refl _ _).alloc (Nat.le_refl _) _⟩
            unfold fineF; rw [hall.out, hd.out, List.all_cons, argOk_no (.inl hx0)]; simp
          · by_cases hx1 : 1000000000 < x
            · go_wp2
              go_ret
              refine ⟨ret_bool ?_, (Below.refl _ _).alloc (Nat.le_refl _) _⟩
              unfold fineF; rw [hall.out, hd.out, List.all_cons, argOk_no (.inr hx1)]; simp
            · go_wp2
              go_round
              case rel =>
                refine ⟨k + 1, by omega, by go_num, ?_⟩
                unfold Hid; rw [hall.out, hd.out, List.all_cons, argOk_yes hx0 hx1]; rfl
              case measure => simp [intOf]; omega
        · have hok : args.all argOk = true := by rw [hall.out, drop_end hlt]; rfl
          have Hok := Lib.hid hok; clear hok
          by_cases hl0 : args.length = 0
          · have e0 : ((args.length : Int) == 0) = true := by simp [hl0]
            have Hl0 := Lib.hid hl0; clear hl0
            go_wp2
            go_ret
            refine ⟨ret_bool ?_, (Below.refl _ _).alloc (Nat.le_refl _) _⟩
            unfold fineF shapeOk; rw [Hlt.out, Hok.out]; simp [Hl0.out]
          · have e0 : ((args.length : Int) == 0) = false := by simpa using hl0
            by_cases hl4 : args.length ≤ 4
            · by_cases h91 : nm = 91
              · have e1 : (nm != 91) = false := by simp [h91]
                have H91 := Lib.hid h91; clear h91
                go_wp2
                go_ret
                refine ⟨ret_bool ?_, (Below.refl _ _).alloc (Nat.le_refl _) _⟩
                unfold fineF shapeOk; simp [H91.out, hl0]
              · have e1 : (nm != 91) = true := by simp [h91]
                by_cases h93 : nm = 93
                · have e2 : (nm != 93) = false := by simp [h93]
                  have H93 := Lib.hid h93; clear h93
                  go_wp2
                  go_ret
                  refine ⟨ret_bool ?_, (Below.refl _ _).alloc (Nat.le_refl _) _⟩
                  unfold fineF shapeOk; simp [H93.out, hl0]
                · have e2 : (nm != 93) = true := by simp [h93]
                  go_wp2
                  go_ret
                  refine ⟨ret_bool ?_, (Below.refl _ _).alloc (Nat.le_refl _) _⟩
                  unfold fineF shapeOk; rw [Hlt.out, Hok.out]; simp [hl0, hl4, h91, h93]
            · go_wp2
              go_ret
              refine ⟨ret_bool ?_, (Below.refl _ _).alloc (Nat.le_refl _) _⟩
              unfold fineF shapeOk; rw [Hlt.out, Hok.out]; simp [hl0, hl4]

end Go.Proofs.YtckffdaomjbglaaDoor

/-! Wb -/
namespace Go.Proofs.YtckffdaomjbglaaDoor
open Go.RowKit

def CheckPost (ms : List Mod) (w : World) (e : Ending) (w' : World) : Prop := e = .returned (.int .i64 (checkF ms)) ∧ Below w.heap.size w w'

theorem modAt_keep {w w' : World} {A : Option Addr} {c : Nat} {xs : List Mod} (h : SlAt pMod (Old w) w A c xs) (hb : Below w.heap.size w w') : SlAt pMod (Old w) w' A c xs := h.below hb

set_option maxRecDepth 100000 in
set_option maxHeartbeats 1000000 in
theorem wordCheck_calls (A : Option Addr) (c : Nat) (ms : List Mod) (w : World) (h : SlAt pMod (Old w) w A c ms) :
    Calls Tryd.prog 28 #[.slice A ms.length c] w (CheckPost ms w) := by
  have hmx := h.lenle
  have H := Lib.hid h; clear h
  by_cases hbig : 2000 < ms.length
  · go_enter Tryd.func28, Tryd.ntmps28
    go_wp2
    go_ret
    exact ⟨ret_int (by unfold checkF; rw [if_pos hbig]), Below.refl _ _⟩
  · have Hbig := Lib.hid hbig; clear hbig
    have hle : ms.length ≤ 2000 := by have := Hbig.out; omega
    go_enter Tryd.func28, Tryd.ntmps28
    go_wp2
    go_loopw [12] (fun i wr => ∃ k : Nat, k ≤ ms.length ∧ i = .int .i64 k ∧ Hid (Below w.heap.size w wr) ∧ w.heap.size ≤ wr.heap.size ∧ Hid (ms.all fineF = (ms.drop k).all fineF)) (fun i _ => ms.length - (intOf i).toNat)
    case atStart => exact ⟨0, Nat.zero_le _, rfl, Below.refl _ _, Nat.le_refl _, rfl⟩
    case round =>
      obtain ⟨k, hk, rfl, hb, hsz, hall⟩ := hrel
      obtain ⟨wo, rfl⟩ : ∃ wo : World, wo = wr := ⟨_, rfl⟩
      by_cases hlt : k < ms.length
      · obtain ⟨b, o, A', c', m, hd, rfl, hob, hc0, hc1, hf8, hargs, hl⟩ := (H.out.below hb.out).getMod hlt
        have hob' : b < wo.heap.size := Nat.lt_of_lt_of_le hob hsz
        have hcall : ∀ W : World, Below wo.heap.size wo W → Calls Tryd.prog 39 #[.agg #[.int .u8 m.name, .slice A' m.args.length c']] W (FinePost m W) := fun W hW =>
          fine_calls A' c' m W (hargs.out.keep fun q hq => hW.block q (Nat.lt_of_lt_of_le hq hsz)) (fun q hq => Nat.lt_of_lt_of_le hq (Nat.le_trans hsz hW.size)) hf8
        have Hcall := Lib.hid hcall; clear hcall
        go_wp2_with fail
        refine (Hcall.out _ (((Below.refl _ _).alloc (Nat.le_refl _) _))).mono ?_
        rintro e w1 ⟨rfl, hb1⟩
        have hsz1 := hb1.size
        simp at hsz1
        have hbw : Below w.heap.size w w1 := (hb.out.alloc hsz _).trans (hb1.mono (by simp; omega))
        have Hbw := Lib.hid hbw; clear hbw hb1
        cases hfm : fineF m
        · go_wp2
          go_ret
          refine ⟨ret_int ?_, Hbw.out⟩
          unfold checkF
          rw [if_neg Hbig.out, if_pos]
          rw [hall.out, hd.out, List.all_cons, hfm]; rfl
        · go_wp2
          go_roundw
          case rel =>
            refine ⟨k + 1, by omega, by go_num, Hbw, Hbw.out.size, ?_⟩
            unfold Hid; rw [hall.out, hd.out, List.all_cons, hfm]; rfl
          case measure => simp [intOf]; omega
      · have hok : ms.all fineF = true := by rw [hall.out, drop_end hlt]; rfl
        have Hok := Lib.hid hok; clear hok
        go_wp2
        go_loopw [22, 5] (fun i n wr => ∃ k o : Nat, k ≤ ms.length ∧ o ≤ k ∧ i = .int .i64 k ∧ n = .int .i64 o ∧ wr = wo ∧ Hid (scan 0 ms = scan o (ms.drop k))) (fun i _ _ => ms.length - (intOf i).toNat)
        case atStart => exact ⟨0, 0, Nat.zero_le _, Nat.le_refl _, rfl, rfl, rfl, rfl⟩
        case round =>
          obtain ⟨k2, op, hk2, hop, rfl, rfl, rfl, hsc⟩ := hrel
          by_cases hlt2 : k2 < ms.length
          · obtain ⟨b, o, A', c', m, hd, rfl, hob, hc0, hc1, hf8, hargs, hl⟩ := (H.out.below hb.out).getMod hlt2
            by_cases h91 : m.name = 91
            · have e0 : (m.name == 91) = true := by simp [h91]
              have e1 : (m.name == 93) = false := by simp [h91]
              have H91 := Lib.hid h91; clear h91
              go_wp2
              go_roundw
              case rel =>
                refine ⟨k2 + 1, op + 1, by omega, by omega, by go_num, by go_num, trivial, ?_⟩
                unfold Hid; rw [hsc.out, hd.out]; simp [scan, H91.out]
              case measure => simp [intOf]; omega
            · have e0 : (m.name == 91) = false := by simp [h91]
              by_cases h93 : m.name = 93
              · have e1 : (m.name == 93) = true := by simp [h93]
                have H93 := Lib.hid h93; clear h93
                by_cases h0 : op = 0
                · subst h0
                  go_wp2
                  go_ret
                  refine ⟨ret_int ?_, hb.out⟩
                  unfold checkF
                  rw [if_neg Hbig.out, if_neg (by rw [Hok.out]; decide), hsc.out, hd.out]; simp [scan, H93.out]
                · have e2 : ((op : Int) == 0) = false := by simp; omega
                  go_wp2
                  go_roundw
                  case rel =>
                    refine ⟨k2 + 1, op - 1, by omega, by omega, by go_num, by congr 1; omega, trivial, ?_⟩
                    unfold Hid; rw [hsc.out, hd.out]; simp [scan, H93.out, h0]
                  case measure => simp [intOf]; omega
              · have e1 : (m.name == 93) = false := by simp [h93]
                go_wp2
                go_roundw
                case rel =>
                  refine ⟨k2 + 1, op, by omega, by omega, by go_num, rfl, trivial, ?_⟩
                  unfold Hid; rw [hsc.out, hd.out]; simp [scan, h91, h93]
                case measure => simp [intOf]; omega
          · have hs : scan 0 ms = some op := by rw [hsc.out, drop_end hlt2]; rfl
            have Hs := Lib.hid hs; clear hs
            by_cases h0 : 0 < op
            · go_wp2
              go_ret
              refine ⟨ret_int ?_, hb.out⟩
              unfold checkF
              rw [if_neg Hbig.out, if_neg (by rw [Hok.out]; decide), Hs.out]; simp [h0]
            · obtain rfl : op = 0 := by omega
              go_wp2
              go_ret
              refine ⟨ret_int ?_, hb.out⟩
              unfold checkF
              rw [if_neg Hbig.out, if_neg (by rw [Hok.out]; decide), Hs.out]; rfl

/-! ### the reference -/
theorem symS_get (k : Nat) (hk : k < (⟨#[43, 45, 38, 94, 124, 33, 91, 93]⟩ : ByteArray).size) : symL[k]? = some (((⟨#[43, 45, 38, 94, 124, 33, 91, 93]⟩ : ByteArray)[k]'hk).toNat : Int) := by
  have h8 : k < 8 := hk
  rcases (show k = 0 ∨ k = 1 ∨ k = 2 ∨ k = 3 ∨ k = 4 ∨ k = 5 ∨ k = 6 ∨ k = 7 by omega) with rfl | rfl | rfl | rfl | rfl | rfl | rfl | rfl <;> rfl
set_option maxRecDepth 100000 in
set_option maxHeartbeats 2000000 in
theorem letter_calls (c : Int) (w : World) : Calls Tryd.prog 61 #[.int .u8 c] w fun e w' => e = .returned (.bool (letterB c)) ∧ w = w' := by
  go_enter Tryd.func61, Tryd.ntmps61
  go_wp2
  go_loop [4] (fun i => ∃ k : Nat, k ≤ 8 ∧ i = .int .i64 k ∧ Hid (symB c = (symL.drop k).contains c)) (fun i => 8 - (intOf i).toNat)
  case atStart => exact ⟨0, by omega, rfl, rfl⟩
  case round =>
    obtain ⟨k, hk, rfl, hs⟩ := hrel
    by_cases h8 : k < 8
    · have step : ∀ v : Int, symL[k]? = some v → v = c ∨ (v ≠ c ∧ symB c = (symL.drop (k + 1)).contains c) := by
        intro v hv
        by_cases hvc : v = c
        · exact .inl hvc
        · refine .inr ⟨hvc, ?_⟩
          rw [hs.out, drop_cons hv, List.contains_cons]
          simp [Ne.symm hvc]
      have yes : ∀ v : Int, symL[k]? = some v → v = c → letterB c = true := by
        intro v hv hvc
        unfold letterB
        rw [hs.out, drop_cons hv, List.contains_cons, hvc]; simp
      have hget := symS_get k h8
      by_cases hvc : (((⟨#[43, 45, 38, 94, 124, 33, 91, 93]⟩ : ByteArray)[k]'h8).toNat : Int) = c
      · have hy := yes _ hget hvc
        have e0 : ((((⟨#[43, 45, 38, 94, 124, 33, 91, 93]⟩ : ByteArray)[k]'h8).toNat : Int) == c) = true := by simpa using hvc
        have Hy := Lib.hid hy
        clear hy step yes hget hvc
        go_wp2
        go_ret
        exact ⟨ret_bool Hy.out.symm, rfl⟩
      · have hy := (step _ hget).resolve_left hvc
        have e0 : ((((⟨#[43, 45, 38, 94, 124, 33, 91, 93]⟩ : ByteArray)[k]'h8).toNat : Int) == c) = false := by simpa using hvc
        have Hn := Lib.hid hy.2
        clear hy step yes hget hvc
        go_wp2
        go_round
        case rel => exact ⟨k + 1, by omega, by go_num, Hn⟩
        case measure => simp [intOf]; omega
    · have hs2 : symB c = false := by rw [hs.out, drop_end (show ¬ k < symL.length from h8)]; rfl
      have Hs2 := Lib.hid hs2; clear hs2
      have hcs : c < 65 ∨ (65 ≤ c ∧ c ≤ 90) ∨ (90 < c ∧ c < 97) ∨ (97 ≤ c ∧ c ≤ 122) ∨ 122 < c := by omega
      rcases hcs with h1 | ⟨h1, h2⟩ | ⟨h1, h2⟩ | ⟨h1, h2⟩ | h1
      all_goals
        go_wp2
        go_ret
        refine ⟨ret_bool ?_, rfl⟩
        unfold letterB upB loB; rw [Hs2.out, Bool.eq_iff_iff]; simp; try omega

def openL (n : Nat) : List Mod → Option (List Int)
  | [] => some []
  | m :: ms => if m.name = 91 then (openL (n + 1) ms).map ((((n + 1 : Nat) : Int)) :: ·) else if m.name = 93 then (if n = 0 then none else (openL (n - 1) ms).map (((n - 1 : Nat) : Int) :: ·)) else (openL n ms).map ((n : Int) :: ·)
theorem scan_openL : ∀ (ms : List Mod) (n : Nat), Option.map (fun k : Nat => (k : Int)) (scan n ms) = (openL n ms).map (fun l => l.getLast?.getD (n : Int))
  | [], n => rfl
  | m :: ms, n => by
    have key : ∀ k : Nat, Option.map (fun k : Nat => (k : Int)) (scan k ms) = ((openL k ms).map ((k : Int) :: ·)).map (fun l => l.getLast?.getD (n : Int)) := by
      intro k
      rw [scan_openL ms k, Option.map_map]
      congr 1
      funext l
      cases l with
      | nil => rfl
      | cons x l => simp [List.getLast?_cons]
    unfold scan openL
    split
    · exact key (n + 1)
    · split
      · split
        · rfl
        · exact key (n - 1)
      · exact key n

set_option maxRecDepth 100000 in
set_option maxHeartbeats 2000000 in
theorem refFine_calls {F : Nat → Prop} (A : Option Addr) (c : Nat) (m : Mod) (w : World) (h : SlAt (pI .i64) F w A c m.args) (hF : ∀ k, F k → k < w.heap.size) :
    Calls Tryd.prog 50 #[.agg #[.int .u8 m.name, .slice A m.args.length c]] w (FinePost m w) := by
  obtain ⟨nm, args⟩ := m
  simp only at h ⊢
  have hmx := h.lenle
  have H := Lib.hid h; clear h
  have HF := Lib.hid hF; clear hF
  have hkp : ∀ k, F k → (w.alloc (.cells #[.int .u8 nm, .slice A args.length c] 50)).heap[k]? = w.heap[k]? := fun k hk => Below.heap_alloc _ _ _ (HF.out k hk)
  have H2 := Lib.hid (H.out.keep hkp)
  clear hkp
  have no : fineF ⟨nm, args⟩ = false → FinePost ⟨nm, args⟩ w (.returned (.bool false)) (w.alloc (.cells #[.int .u8 nm, .slice A args.length c] 50)) := fun hn => ⟨by rw [hn], (Below.refl _ _).alloc (Nat.le_refl _) _⟩
  have No := Lib.hid no; clear no
  cases hlt : letterB nm
  · go_enter Tryd.func50, Tryd.ntmps50
    go_wp2_with (go_at_call 61; refine (letter_calls _ _).mono ?_; rintro e w' ⟨rfl, rfl⟩)
    go_ret
    exact No.out (by unfold fineF; rw [hlt]; rfl)
  · by_cases h4 : 4 < args.length
    · go_enter Tryd.func50, Tryd.ntmps50
      go_wp2_with (go_at_call 61; refine (letter_calls _ _).mono ?_; rintro e w' ⟨rfl, rfl⟩)
      go_ret
      exact No.out (by unfold fineF shapeOk; rw [show (args.length == 0) = false from by simp; rintro rfl; simp at h4, show decide (args.length ≤ 4) = false from by simp; omega]; simp)
    · have hcase : (shapeOk ⟨nm, args⟩ = false ∧ 0 < args.length ∧ (((nm == 91) = true) ∨ ((nm == 91) = false ∧ (nm == 93) = true))) ∨
          (shapeOk ⟨nm, args⟩ = true ∧ (((nm == 91) = true ∧ ¬ 0 < args.length) ∨ ((nm == 91) = false ∧ (nm == 93) = true ∧ ¬ 0 < args.length) ∨ ((nm == 91) = false ∧ (nm == 93) = false))) := by
        unfold shapeOk
        by_cases h0 : 0 < args.length
        · have e0 : (args.length == 0) = false := by simp; rintro rfl; simp at h0
          have e4 : decide (args.length ≤ 4) = true := by simp; omega
          simp only [e0, e4]
          by_cases h1 : nm = 91
          · left; subst h1; exact ⟨rfl, h0, .inl rfl⟩
          · by_cases h3 : nm = 93
            · left; subst h3; exact ⟨rfl, h0, .inr ⟨rfl, rfl⟩⟩
            · right; exact ⟨by simp [h1, h3], .inr (.inr ⟨by simp [h1], by simp [h3]⟩)⟩
        · have e0 : (args.length == 0) = true := by simp; exact List.eq_nil_of_length_eq_zero (by omega)
          right
          refine ⟨by simp [e0], ?_⟩
          by_cases h1 : nm = 91
          · exact .inl ⟨by simp [h1], h0⟩
          · by_cases h3 : nm = 93
            · exact .inr (.inl ⟨by simp [h1], by simp [h3], h0⟩)
            · exact .inr (.inr ⟨by simp [h1], by simp [h3]⟩)
      rcases hcase with ⟨hsh, h0, h1 | ⟨h1, h3⟩⟩ | ⟨hsh, hcs⟩
      · go_enter Tryd.func50, Tryd.ntmps50
        go_wp2_with (go_at_call 61; refine (letter_calls _ _).mono ?_; rintro e w' ⟨rfl, rfl⟩)
        go_ret
        exact No.out (by unfold fineF; rw [hsh]; simp)
      · go_enter Tryd.func50, Tryd.ntmps50
        go_wp2_with (go_at_call 61; refine (letter_calls _ _).mono ?_; rintro e w' ⟨rfl, rfl⟩)
        go_ret
        exact No.out (by unfold fineF; rw [hsh]; simp)
      · have Hsh := Lib.hid hsh; clear hsh
        go_enter Tryd.func50, Tryd.ntmps50
        rcases hcs with ⟨h1, h0⟩ | ⟨h1, h3, h0⟩ | ⟨h1, h3⟩
        · go_wp2_with (go_at_call 61; refine (letter_calls _ _).mono ?_; rintro e w' ⟨rfl, rfl⟩)
          have Hlt := Lib.hid hlt
          go_loop [3] (fun i => i = .int .i64 0) (fun i => 0)
          case atStart => rfl
          case round =>
            subst hrel
            go_wp2
            go_ret
            refine ⟨ret_bool ?_, (Below.refl _ _).alloc (Nat.le_refl _) _⟩
            have ha : args = [] := List.eq_nil_of_length_eq_zero (by omega)
            unfold fineF; rw [Hlt.out, Hsh.out, ha]; rfl
        · go_wp2_with (go_at_call 61; refine (letter_calls _ _).mono ?_; rintro e w' ⟨rfl, rfl⟩)
          have Hlt := Lib.hid hlt
          go_loop [3] (fun i => i = .int .i64 0) (fun i => 0)
          case atStart => rfl
          case round =>
            subst hrel
            go_wp2
            go_ret
            refine ⟨ret_bool ?_, (Below.refl _ _).alloc (Nat.le_refl _) _⟩
            have ha : args = [] := List.eq_nil_of_length_eq_zero (by omega)
            unfold fineF; rw [Hlt.out, Hsh.out, ha]; rfl
        · go_wp2_with (go_at_call 61; refine (letter_calls _ _).mono ?_; rintro e w' ⟨rfl, rfl⟩)
          have Hlt := Lib.hid hlt
          go_loop [3] (fun i => ∃ k : Nat, k ≤ args.length ∧ i = .int .i64 k ∧ Hid (args.all argOk = (args.drop k).all argOk)) (fun i => args.length - (intOf i).toNat)
          case atStart => exact ⟨0, Nat.zero_le _, rfl, rfl⟩
          case round =>
            obtain ⟨k, hk, rfl, hall⟩ := hrel
            by_cases hlt2 : k < args.length
            · obtain ⟨b, o, x, hd, rfl, _, hcx, _⟩ := H2.out.getI hlt2
              by_cases hx0 : x < -1000000000
              · go_wp2
                go_ret
                exact No.out (by unfold fineF; rw [hall.out, hd.out, List.all_cons, argOk_no (.inl hx0)]; simp)
              · by_cases hx1 : 1000000000 < x
                · go_wp2
                  go_ret
                  exact No.out (by unfold fineF; rw [hall.out, hd.out, List.all_cons, argOk_no (.inr hx1)]; simp)
                · go_wp2
                  go_round
                  case rel =>
                    refine ⟨k + 1, by omega, by go_num, ?_⟩
                    unfold Hid; rw [hall.out, hd.out, List.all_cons, argOk_yes hx0 hx1]; rfl
                  case measure => simp [intOf]; omega
            · go_wp2
              go_ret
              refine ⟨ret_bool ?_, (Below.refl _ _).alloc (Nat.le_refl _) _⟩
              unfold fineF; rw [Hlt.out, hall.out, drop_end hlt2, Hsh.out]; rfl

end Go.Proofs.YtckffdaomjbglaaDoor

/-! Fp -/
namespace Go.Proofs.YtckffdaomjbglaaDoor
open Go.RowKit

def inC (x : Int) : Bool := decide (-1000000 ≤ x) && decide (x ≤ 1000000)
def formF (f : Frm) (n : Nat) : Bool := inC f.const && f.coefs.all inC && f.coefs.length == n
theorem inC_yes {x : Int} (h0 : ¬ x < -1000000) (h1 : ¬ 1000000 < x) : inC x = true := by unfold inC; simp; omega
theorem inC_no {x : Int} (h : x < -1000000 ∨ 1000000 < x) : inC x = false := by unfold inC; simp; omega
theorem inC_iff {x : Int} : inC x = true ↔ -1000000 ≤ x ∧ x ≤ 1000000 := by unfold inC; simp
theorem argOk_iff {x : Int} : argOk x = true ↔ -1000000000 ≤ x ∧ x ≤ 1000000000 := by unfold argOk; simp

def fdot : List Int → List Int → Int
  | c :: cs, x :: xs => c * x + fdot cs xs
  | _, _ => 0
def worthF (f : Frm) (args : List Int) : Int := f.const + fdot f.coefs args

theorem natAbs_le {a : Int} {n : Nat} (h0 : -(n : Int) ≤ a) (h1 : a ≤ n) : a.natAbs ≤ n := by omega
theorem mul_bd {c x : Int} (hc : inC c = true) (hx : argOk x = true) : -1000000000000000 ≤ c * x ∧ c * x ≤ 1000000000000000 := by
  have h1 := inC_iff.1 hc
  have h2 := argOk_iff.1 hx
  have h3 : (c * x).natAbs ≤ 1000000 * 1000000000 := by
    rw [Int.natAbs_mul]
    exact Nat.mul_le_mul (natAbs_le (n := 1000000) (by omega) (by omega)) (natAbs_le (n := 1000000000) (by omega) (by omega))
  omega

def coreR (r : Rul) : Bool :=
  letterB r.name && (r.name != 91) && (r.name != 93) && decide (0 ≤ r.arity) && decide (r.arity ≤ 4) && r.guards.all (fun f => formF f r.arity.toNat) && r.out.all (fun s => s.args.all (fun f => formF f r.arity.toNat)) &&
    checkF (r.out.map fun s => ⟨s.name, List.replicate s.args.length 0⟩) == 0
def bareR (r : Rul) : Bool := r.left == 0 && r.right == 0 && r.weight == 0
def fineR (r : Rul) : Bool := coreR r && bareR r
def manyR (rs : List Rul) : Bool := decide (40 < rs.length) || rs.any (fun r => decide (4 < r.guards.length) || decide (20 < r.out.length))
def checkR (rs : List Rul) : Int := if manyR rs = true then 4 else if rs.all fineR = true then 0 else 8
def valueF (f : Frm) (args : List Int) : Int × Int :=
  if formF f args.length = true ∧ args.all argOk = true ∧ args.length ≤ 4 then
    (if worthF f args < -1000000000 ∨ 1000000000 < worthF f args then (0, 16) else (worthF f args, 0))
  else (0, 8)
def fitsF (r : Rul) (m : Mod) : Bool := r.name == m.name && r.arity == (m.args.length : Int) && r.guards.all (fun g => decide (0 ≤ worthF g m.args))
def firstFrom (m : Mod) : List Rul → Nat → Int
  | [], _ => -1
  | r :: rs, k => if fitsF r m = true then (k : Int) else firstFrom m rs (k + 1)
def firstF (rs : List Rul) (m : Mod) : Int := firstFrom m rs 0
def findF (rs : List Rul) (m : Mod) : Int × Int := if checkR rs = 0 then (if fineF m = true then (firstF rs m, 0) else (0, 8)) else (0, checkR rs)
def greatR (rs : List Rul) : Bool := decide (50 < rs.length) || rs.any (fun r => decide (10 < r.guards.length) || decide (30 < r.out.length) || r.guards.any (fun g => decide (10 < g.coefs.length)) ||
  r.out.any (fun s => decide (10 < s.args.length) || s.args.any (fun f => decide (10 < f.coefs.length))))

theorem letter_byte {m : Mod} (h : fineF m = true) : letterB m.name = true := by
  unfold fineF at h; simp at h; exact h.1.1
/-- a word of one bare module -/
theorem check_one (c : Int) : checkF [⟨c, []⟩] = 0 ↔ letterB c = true ∧ c ≠ 91 ∧ c ≠ 93 := by
  have h1 : fineF ⟨c, []⟩ = letterB c := by unfold fineF shapeOk; simp
  unfold checkF
  cases hl : letterB c
  · simp [h1, hl]
  · by_cases h91 : c = 91
    · subst h91; simp [h1, hl, scan]
    · by_cases h93 : c = 93
      · subst h93; simp [h1, hl, scan]
      · simp [h1, hl, scan, h91, h93]
/-- a word of one module: its check -/
theorem check_mod (m : Mod) : (checkF [m] = 0 ∨ checkF [m] = 28) ↔ fineF m = true := by
  unfold checkF
  cases hf : fineF m
  · simp [hf]
  · by_cases h91 : m.name = 91
    · simp [hf, scan, h91]
    · by_cases h93 : m.name = 93
      · simp [hf, scan, h93]
      · simp [hf, scan, h91, h93]
theorem firstFrom_none {m : Mod} : ∀ {rs : List Rul} {k : Nat}, firstFrom m rs k = -1 ∨ ∃ j : Nat, firstFrom m rs k = (j : Int) ∧ k ≤ j ∧ j < k + rs.length
  | [], k => .inl rfl
  | r :: rs, k => by
    unfold firstFrom
    split
    · exact .inr ⟨k, rfl, Nat.le_refl _, by simp⟩
    · rcases firstFrom_none (m := m) (rs := rs) (k := k + 1) with h | ⟨j, h, h1, h2⟩
      · exact .inl h
      · exact .inr ⟨j, h, by omega, by simp; omega⟩
theorem fineR_guards {r : Rul} (h : coreR r = true) : 0 ≤ r.arity ∧ r.arity ≤ 4 ∧ (∀ g ∈ r.guards, formF g r.arity.toNat = true) ∧ (∀ s ∈ r.out, ∀ f ∈ s.args, formF f r.arity.toNat = true) := by
  unfold coreR at h
  simp only [Bool.and_eq_true, decide_eq_true_eq, List.all_eq_true] at h
  exact ⟨h.1.1.1.1.2, h.1.1.1.2, h.1.1.2, h.1.2⟩
end Go.Proofs.YtckffdaomjbglaaDoor

/-! Fa -/
namespace Go.Proofs.YtckffdaomjbglaaDoor
open Go.RowKit


set_option maxRecDepth 100000 in
set_option maxHeartbeats 1000000 in
theorem form_calls {F : Nat → Prop} (A : Option Addr) (c : Nat) (f : Frm) (n : Nat) (w : World) (h : SlAt (pI .i64) F w A c f.coefs) (hF : ∀ k, F k → k < w.heap.size) (hc : Fits .i64 f.const) (_hn : n ≤ 9223372036854775807) :
    Calls Tryd.prog 40 #[.agg #[.int .i64 f.const, .slice A f.coefs.length c], .int .i64 n] w (BoolPost (formF f n) w) := by
  obtain ⟨co, xs⟩ := f
  simp only at h hc ⊢
  have hmx := h.lenle
  have hc' := hc.i64
  have hb0 : Below w.heap.size w (w.alloc (.cells #[.int .i64 co, .slice A xs.length c] 77)) := (Below.refl _ _).alloc (Nat.le_refl _) _
  have h2 := h.keep (w' := w.alloc (.cells #[.int .i64 co, .slice A xs.length c] 77)) fun k hk => Below.heap_alloc _ _ _ (hF k hk)
  have H2 := Lib.hid h2; have Hb0 := Lib.hid hb0
  clear h h2 hb0 hF
  go_enter Tryd.func40, Tryd.ntmps40
  go_wp2
  go_loop [10] (fun i => ∃ k : Nat, k ≤ xs.length ∧ i = .int .i64 k ∧ Hid (xs.all inC = (xs.drop k).all inC)) (fun i => xs.length - (intOf i).toNat)
  case atStart => exact ⟨0, Nat.zero_le _, rfl, rfl⟩
  case round =>
    obtain ⟨k, hk, rfl, hall⟩ := hrel
    by_cases hlt : k < xs.length
    · obtain ⟨b, o, x, hd, rfl, _, hcx, hfx⟩ := H2.out.getI hlt
      have hfx' := hfx.i64
      by_cases h0 : x < -1000000
      · have hno : formF ⟨co, xs⟩ n = false := by
          unfold formF; rw [hall.out, hd.out, List.all_cons, show inC x = false from by unfold inC; simp; omega]; simp
        have Hno := Lib.hid hno; clear hno
        go_wp2
        go_ret
        exact ⟨by rw [Hno.out]; rfl, Hb0.out⟩
      · by_cases h1 : 1000000 < x
        · have hno : formF ⟨co, xs⟩ n = false := by
            unfold formF; rw [hall.out, hd.out, List.all_cons, show inC x = false from by unfold inC; simp; omega]; simp
          have Hno := Lib.hid hno; clear hno
          go_wp2
          go_ret
          exact ⟨by rw [Hno.out]; rfl, Hb0.out⟩
        · go_wp2
          go_round
          case rel =>
            refine ⟨k + 1, by omega, by go_num, ?_⟩
            unfold Hid; rw [hall.out, hd.out, List.all_cons, show inC x = true from by unfold inC; simp; omega]; rfl
          case measure => simp [intOf]; omega
    · have ha : xs.all inC = true := by rw [hall.out, drop_end hlt]; rfl
      have Ha := Lib.hid ha; clear ha
      by_cases h0 : co < -1000000
      · have hno : formF ⟨co, xs⟩ n = false := by
          unfold formF; rw [show inC co = false from by unfold inC; simp; omega]; simp
        have Hno := Lib.hid hno; clear hno
        go_wp2
        go_ret
        exact ⟨by rw [Hno.out]; rfl, Hb0.out⟩
      · by_cases h1 : 1000000 < co
        · have hno : formF ⟨co, xs⟩ n = false := by
            unfold formF; rw [show inC co = false from by unfold inC; simp; omega]; simp
          have Hno := Lib.hid hno; clear hno
          go_wp2
          go_ret
          exact ⟨by rw [Hno.out]; rfl, Hb0.out⟩
        · have hyes : formF ⟨co, xs⟩ n = (xs.length == n) := by
            unfold formF; rw [show inC co = true from by unfold inC; simp; omega, Ha.out]; simp
          have Hyes := Lib.hid hyes; clear hyes
          by_cases hl : xs.length = n
          · have e1 : ((xs.length : Int) == (n : Int)) = true := by simp [hl]
            have e2 : (xs.length == n) = true := by simp [hl]
            clear hl
            go_wp2
            go_ret
            exact ⟨by rw [Hyes.out, e2]; rfl, Hb0.out⟩
          · have e1 : ((xs.length : Int) == (n : Int)) = false := by simp; omega
            have e2 : (xs.length == n) = false := by simp [hl]
            clear hl
            go_wp2
            go_ret
            exact ⟨by rw [Hyes.out, e2]; rfl, Hb0.out⟩
end Go.Proofs.YtckffdaomjbglaaDoor

/-! Fb -/
namespace Go.Proofs.YtckffdaomjbglaaDoor
open Go.RowKit

/-- what a valid form and arguments in range give to a sum's loop -/
structure SumOk (f : Frm) (args : List Int) : Prop where
  c : -1000000 ≤ f.const ∧ f.const ≤ 1000000
  k : ∀ x ∈ f.coefs, inC x = true
  n : f.coefs.length = args.length
  a : ∀ x ∈ args, argOk x = true
  l : args.length ≤ 4
theorem sumOk {f : Frm} {args : List Int} (h1 : formF f args.length = true) (h2 : args.all argOk = true) (h3 : args.length ≤ 4) : SumOk f args := by
  unfold formF at h1
  simp only [Bool.and_eq_true, List.all_eq_true, beq_iff_eq] at h1
  exact ⟨inC_iff.1 h1.1.1, h1.1.2, h1.2, List.all_eq_true.1 h2, h3⟩
theorem fdot_cons {cs xs : List Int} {c x : Int} {k : Nat} (h1 : cs.drop k = c :: cs.drop (k + 1)) (h2 : xs.drop k = x :: xs.drop (k + 1)) : fdot (cs.drop k) (xs.drop k) = c * x + fdot (cs.drop (k + 1)) (xs.drop (k + 1)) := by
  rw [h1, h2]; rfl
theorem fdot_bd : ∀ {cs xs : List Int}, (∀ x ∈ cs, inC x = true) → (∀ x ∈ xs, argOk x = true) → -(xs.length : Int) * 1000000000000000 ≤ fdot cs xs ∧ fdot cs xs ≤ (xs.length : Int) * 1000000000000000
  | [], xs, _, _ => by have : fdot [] xs = 0 := rfl
                       rw [this]; omega
  | c :: cs, [], _, _ => by have : fdot (c :: cs) [] = 0 := rfl
                            rw [this]; simp
  | c :: cs, x :: xs, h1, h2 => by
    have h3 := mul_bd (h1 c (by simp)) (h2 x (by simp))
    have h4 := fdot_bd (cs := cs) (xs := xs) (fun y hy => h1 y (by simp [hy])) (fun y hy => h2 y (by simp [hy]))
    unfold fdot; simp only [List.length_cons]; omega
theorem worth_bd {f : Frm} {args : List Int} (h : SumOk f args) : -4000000001000000 ≤ worthF f args ∧ worthF f args ≤ 4000000001000000 := by
  have := fdot_bd h.k h.a
  have := h.l; have := h.c
  unfold worthF; omega

set_option maxRecDepth 100000 in
set_option maxHeartbeats 1000000 in
theorem worth_calls {F : Nat → Prop} (A : Option Addr) (c : Nat) (f : Frm) (A' : Option Addr) (c' : Nat) (args : List Int) (w : World) (h : SlAt (pI .i64) F w A c f.coefs) (h' : SlAt (pI .i64) F w A' c' args) (hF : ∀ k, F k → k < w.heap.size) (hok : SumOk f args) :
    Calls Tryd.prog 64 #[.agg #[.int .i64 f.const, .slice A f.coefs.length c], .slice A' args.length c'] w (IntPost (worthF f args) w) := by
  obtain ⟨co, xs⟩ := f
  have hmx := h.lenle
  have hmx' := h'.lenle
  have hl := hok.n
  have hl4 := hok.l
  have hc := hok.c
  simp only at h hl hc hmx ⊢
  have hb0 : Below w.heap.size w (w.alloc (.cells #[.int .i64 co, .slice A xs.length c] 77)) := (Below.refl _ _).alloc (Nat.le_refl _) _
  have h2 := h.keep (w' := w.alloc (.cells #[.int .i64 co, .slice A xs.length c] 77)) fun k hk => Below.heap_alloc _ _ _ (hF k hk)
  have h3 := h'.keep (w' := w.alloc (.cells #[.int .i64 co, .slice A xs.length c] 77)) fun k hk => Below.heap_alloc _ _ _ (hF k hk)
  have hkk := hok.k
  have haa := hok.a
  have H2 := Lib.hid h2; clear h2
  have H3 := Lib.hid h3; clear h3
  have Hb0 := Lib.hid hb0; clear hb0
  have Hkk := Lib.hid hkk; clear hkk
  have Haa := Lib.hid haa; clear haa
  clear h h' hF
  have hl' : xs.length ≤ args.length := by omega
  have hl'' : args.length ≤ xs.length := by omega
  have Hl := Lib.hid hl; clear hl
  go_enter Tryd.func64, Tryd.ntmps64
  go_wp2
  go_loop [12, 5] (fun i n => ∃ k : Nat, k ≤ args.length ∧ i = .int .i64 k ∧ ∃ s : Int, n = .int .i64 s ∧ -(1000000 + k * 1000000000000000 : Int) ≤ s ∧ s ≤ 1000000 + k * 1000000000000000 ∧ Hid (worthF ⟨co, xs⟩ args = s + fdot (xs.drop k) (args.drop k))) (fun i _ => args.length - (intOf i).toNat)
  case atStart => exact ⟨0, Nat.zero_le _, rfl, co, rfl, by omega, by omega, rfl⟩
  case round =>
    obtain ⟨k, hk, rfl, s, rfl, hs0, hs1, hd⟩ := hrel
    by_cases hlt : k < args.length
    · have hltx : k < xs.length := by omega
      obtain ⟨b, o, x, hdx, rfl, _, hcx, hfx⟩ := H3.out.getI hlt
      obtain ⟨b', o', y, hdy, rfl, _, hcy, hfy⟩ := H2.out.getI hltx
      have hm := mul_bd (Hkk.out y (mem_of_drop hdy.out)) (Haa.out x (mem_of_drop hdx.out))
      obtain ⟨hm0, hm1⟩ := hm
      have hw1 : -9223372036854775808 ≤ s + y * x ∧ s + y * x ≤ 9223372036854775807 := by omega
      go_wp2
      go_round
      case rel =>
        refine ⟨k + 1, by omega, by go_num, s + y * x, by go_num, by omega, by omega, ?_⟩
        unfold Hid; rw [hd.out, fdot_cons hdy.out hdx.out]; omega
      case measure => simp [intOf]; omega
    · have he : worthF ⟨co, xs⟩ args = s := by rw [hd.out, drop_end hlt, drop_end (xs := xs) (by omega)]; unfold fdot; omega
      have He := Lib.hid he; clear he
      go_wp2
      go_ret
      exact ⟨ret_int He.out.symm, Hb0.out⟩

theorem form_int {F : Nat → Prop} (A : Option Addr) (c : Nat) (f : Frm) (n : Int) (w : World) (h : SlAt (pI .i64) F w A c f.coefs) (hF : ∀ k, F k → k < w.heap.size) (hc : Fits .i64 f.const) (hn : 0 ≤ n ∧ n ≤ 4) :
    Calls Tryd.prog 40 #[.agg #[.int .i64 f.const, .slice A f.coefs.length c], .int .i64 n] w (BoolPost (formF f n.toNat) w) := by
  have := form_calls A c f n.toNat w h hF hc (by omega)
  rwa [Int.toNat_of_nonneg hn.1] at this
end Go.Proofs.YtckffdaomjbglaaDoor

/-! Own -/
namespace Go.Proofs.YtckffdaomjbglaaDoor
open Go.RowKit

/-- what an append to v (now v') did to the world -/
structure Grew (base : Nat) (w w' : World) (v v' : Value) : Prop where
  bel : Below base w w'
  oth : ∀ k, k < w.heap.size → some k ≠ v.ownBlock → w'.heap[k]? = w.heap[k]?
  blk : v'.ownBlock = v.ownBlock ∨ ∃ k, v'.ownBlock = some k ∧ w.heap.size ≤ k

section
variable {α : Type} {E : Rp α} {w w' : World} {e : TypeId} {base : Nat} {G : Nat → Prop} {v v' : Value} {xs : List α}
theorem below_drew {B : Nat} {a w : World} (h : Below B a w) : Below B a w.drew := ⟨h.os, h.tape, h.output, h.size, h.block⟩
/-- what an owned slice keeps while others' blocks are written -/
theorem Own.keepG (h : Own E e base G w v xs)
    (hk : ∀ k, k < w.heap.size → (G k ∨ v.ownBlock = some k) → w'.heap[k]? = w.heap[k]?) (hs : w.heap.size ≤ w'.heap.size) : Own E e base G w' v xs := by
  obtain ⟨cells, ⟨h1, h2⟩, h3⟩ := h
  refine ⟨cells, ⟨h1, ?_⟩, (CellsAre.keep (fun k hF => hk k hF.2.1 (.inl hF.1)) h3).wide fun k hF => ⟨hF.1, by omega, hF.2.2⟩⟩
  rcases h2 with h2 | ⟨g, cap, cur, hv, hb, hg, r⟩
  · exact .inl h2
  · exact .inr ⟨g, cap, cur, hv, hb, by rw [hk g (Array.getElem?_eq_some_iff.1 hg).1 (.inr (by rw [hv]; rfl))]; exact hg, r⟩
theorem Own.wideG {G' : Nat → Prop} (h : Own E e base G w v xs) (hG : ∀ k, k < w.heap.size → G k → G' k) : Own E e base G' w v xs := by
  obtain ⟨cells, h1, h3⟩ := h
  exact ⟨cells, h1, h3.wide fun k hF => ⟨hG k hF.2.1 hF.1, hF.2⟩⟩
/-- an owned slice, read -/
theorem Own.sl' {A : Option Addr} {n c : Nat} (h : Own E e base G w (.slice A n c) xs) : xs.length = n ∧ SlAt E (fun k => (G k ∨ base ≤ k) ∧ k < w.heap.size) w A c xs := by
  obtain ⟨A', c', he, hs⟩ := h.sl
  cases he
  exact ⟨rfl, hs⟩
/-- an owned slice, others' blocks written: the form with 'Grew' of another one -/
theorem Own.beside {u u' : Value} {b : Nat} (h : Own E e base G w v xs) (hg : Grew b w w' u u') (hd : ∀ k, u.ownBlock = some k → ¬ G k ∧ v.ownBlock ≠ some k) : Own E e base G w' v xs :=
  h.keepG (fun k hk hG => hg.oth k hk fun he => by
    have := hd k he.symm
    rcases hG with hG | hG
    · exact this.1 hG
    · exact this.2 hG) hg.bel.size
end

section
variable {P : Program} {α : Type} {E : Rp α}
theorem wpList_catG {ops : Array Oper} {rest : List Oper} {o : Oper} {a : Act} {Q : Exit → Act → World → Prop} {w : World} {base : Nat} {G : Nat → Prop} {v : Value} {xs : List α} (t e : TypeId) (z : Value) (bytes : Nat) (s x : Operand) (hgd : o.guard = none)
    (ho : o.op = .call { callee := .builtin .append, args := #[s, x], argTypes := #[t, t] })
    (ht : P.underlying t = some (.slice e)) (hinfo : (P.info? e).map (fun i => (i.zero, i.size, i.bytes)) = some (some z, E.n, bytes)) (hzs : z.cells.size = E.n) (hsz : 0 < E.n)
    (hs : a.eval s = v) (hown : Own E e base G w v xs) (A : Option Addr) (c : Nat) (ys : List α) (hx : a.eval x = .slice A ys.length c) (F : Nat → Prop) (hsl : SlAt E F w A c ys)
    (hF : ∀ k, F k → G k ∧ k < w.heap.size ∧ some k ≠ v.ownBlock) (n : Nat) (hn : (xs ++ ys).length = n) (hlen : Room n) (hb : bytes ≤ 131072) (hbase : base ≤ w.heap.size)
    (h : ∀ A' c' w', Hid (Own E e base G w' (.slice A' n c') (xs ++ ys)) → Hid (Grew base w w' v (.slice A' n c')) → wpList P ops Q rest (a.put o.dst (.slice A' n c')) w') : wpList P ops Q (o :: rest) a w := by
  refine wpList_app_sl t e z bytes hgd s x ho ht hinfo hzs hsz hs hown A c ys hx F hsl hF (by rw [← List.length_append, hn]; exact Nat.le_of_lt hlen) hb hbase fun v' w' h1 h2 h3 => ?_
  obtain ⟨cells, ⟨hl, hv⟩, hc⟩ := h1
  have hform : ∃ A' c', v' = .slice A' n c' := by
    rcases hv with ⟨hv, h0⟩ | ⟨g, cap, cur, hv, _⟩
    · rw [hn] at h0; subst h0; exact ⟨_, _, hv⟩
    · rw [hn] at hv; exact ⟨_, _, hv⟩
  obtain ⟨A', c', rfl⟩ := hform
  exact h A' c' w' ⟨cells, ⟨hl, hv⟩, hc⟩ ⟨below_app (Below.refl base w) h2 hown (Nat.le_refl _) hbase, h2.block, h3.imp id fun he => ⟨_, he, Nat.le_refl _⟩⟩

theorem wpList_pushG {ops : Array Oper} {rest : List Oper} {o1 o2 : Oper} {a : Act} {Q : Exit → Act → World → Prop} {w : World} {base : Nat} {G : Nat → Prop} {v : Value} {xs : List α} (t e : TypeId) (z : Value) (bytes : Nat) (tmp : Nat) (s xo : Operand)
    (hg1 : o1.guard = none) (hg2 : o2.guard = none) (hd1 : o1.dst = some tmp) (ho1 : o1.op = .buildSlice t 1 #[(0, xo)])
    (ho2 : o2.op = .call { callee := .builtin .append, args := #[s, .tmp tmp], argTypes := #[t, t] })
    (ht : P.underlying t = some (.slice e)) (hinfo : (P.info? e).map (fun i => (i.zero, i.size, i.bytes)) = some (some z, E.n, bytes)) (hzs : z.cells.size = E.n) (hsz : 0 < E.n)
    (hs : ∀ u, (a.put (some tmp) u).eval s = v) (ht2 : ∀ u, (a.put (some tmp) u).eval (.tmp tmp) = u) (hown : Own E e base G w v xs)
    (u : Value) (hu : a.eval xo = u) (x : α) (F : Nat → Prop) (hR : E.R F w u.cells.toList x)
    (hF : ∀ k, F k → G k ∧ k < w.heap.size ∧ some k ≠ v.ownBlock) (n : Nat) (hn : xs.length + 1 = n) (hlen : Room xs.length) (hb : bytes ≤ 131072 ∧ E.n ≤ 16777216) (hbase : base ≤ w.heap.size)
    (h : ∀ A' c' w', Hid (Own E e base G w' (.slice A' n c') (xs ++ [x])) → Hid (Grew base w w' v (.slice A' n c')) →
      wpList P ops Q rest ((a.put (some tmp) (.slice (some ⟨w.heap.size, 0, none⟩) 1 1)).put o2.dst (.slice A' n c')) w') : wpList P ops Q (o1 :: o2 :: rest) a w := by
  subst hn
  have hcl := E.len hR
  have hrun := run_buildSlice1 (P := P) (t := t) (e := e) (z := z) (size := E.n) (bytes := bytes) ht hinfo hzs hsz hb.2 u (by simpa using hcl) w
  refine wpList_plain hg1 fun K hK => ?_
  unfold Oper.wp
  rw [show execOp a.eval o1 = do return .value (← Instr.buildSlice t 1 #[(0, u)]) from by simp [execOp, ho1, hu]]
  simp only [Sem.run_bind, hrun, Result.andThen_ok, Sem.run_pure, Oper.upon_value, hd1]
  refine hK _ _ ?_
  have hkp : ∀ k, k < w.heap.size → (w.alloc (.cells u.cells e)).heap[k]? = w.heap[k]? := fun k hk => Below.heap_alloc _ _ _ hk
  refine wpList_app (P := P) (E := E) (base := base) (G := G) (v := v) (xs := xs) t e z bytes hg2 s (.tmp tmp) ho2 ht hinfo hzs hsz (hs _) (hown.alloc _) ⟨w.heap.size, 0, none⟩ 1 1 (ht2 _) u.cells.toList [x] rfl F
    (CellsAre.one (E.keep hR fun k hk => hkp k (hF k hk).2.1)) (fun j c hc => ?_) (fun k hk => ⟨(hF k hk).1, by simp; have := (hF k hk).2.1; omega, (hF k hk).2.2⟩) (by unfold Room at hlen; simp; omega) hb.1 (by simp; omega) (fun v' w' h1 h2 h3 => ?_)
  · rw [add_lit', Nat.zero_add, (Blk.new w e u.cells).cell]; simpa using hc
  · obtain ⟨cells, ⟨hl, hv⟩, hc⟩ := h1
    have hform : ∃ A' c', v' = .slice A' (xs.length + 1) c' := by
      rcases hv with ⟨_, h0⟩ | ⟨g, cap, cur, hv, _⟩
      · simp at h0
      · rw [List.length_append] at hv; exact ⟨_, _, hv⟩
    obtain ⟨A', c', rfl⟩ := hform
    refine h A' c' w' ⟨cells, ⟨hl, hv⟩, hc⟩ ⟨?_, fun k hk hne => (h2.block k (by simp; omega) hne).trans (hkp k hk), h3.imp id fun he => ⟨_, he, by simp⟩⟩
    refine below_app ((Below.refl base w).alloc hbase _) h2 (hown.alloc _) (Nat.le_refl _) (by simp; omega)

theorem wp_catG {o : Oper} {a : Act} {K : Act → World → Prop} {Q : Exit → Act → World → Prop} {w : World} {base : Nat} {G : Nat → Prop} {v : Value} {xs : List α} (t e : TypeId) (z : Value) (bytes : Nat) (s x : Operand)
    (ho : o.op = .call { callee := .builtin .append, args := #[s, x], argTypes := #[t, t] })
    (ht : P.underlying t = some (.slice e)) (hinfo : (P.info? e).map (fun i => (i.zero, i.size, i.bytes)) = some (some z, E.n, bytes)) (hzs : z.cells.size = E.n) (hsz : 0 < E.n)
    (hs : a.eval s = v) (hown : Own E e base G w v xs) (A : Option Addr) (c : Nat) (ys : List α) (hx : a.eval x = .slice A ys.length c) (F : Nat → Prop) (hsl : SlAt E F w A c ys)
    (hF : ∀ k, F k → G k ∧ k < w.heap.size ∧ some k ≠ v.ownBlock) (n : Nat) (hn : (xs ++ ys).length = n) (hlen : Room n) (hb : bytes ≤ 131072) (hbase : base ≤ w.heap.size)
    (h : ∀ A' c' w', Hid (Own E e base G w' (.slice A' n c') (xs ++ ys)) → Hid (Grew base w w' v (.slice A' n c')) → K (a.put o.dst (.slice A' n c')) w') : o.wp P a w K Q := by
  obtain ⟨i, hi, hz, h1, h2⟩ := info_parts hinfo
  have hown' := hown
  obtain ⟨cells, h3, h4⟩ := hown
  cases A with
  | some ad =>
    obtain ⟨news, h5, h6⟩ := hsl.cells
    have hby : (xs.length + ys.length) * bytes ≤ 140737488355328 := by
      rw [← List.length_append, hn]
      have := Nat.mul_le_mul (Nat.le_of_lt hlen) hb
      omega
    have hml : xs.length + ys.length ≤ maxLen := by
      rw [← List.length_append, hn]; unfold Room at hlen; unfold maxLen; omega
    obtain ⟨v', w', hr, k1, k2, _, k4⟩ := run_append_own_at (P := P) w base t o.type e i z E.n bytes ht hi hz h1 h2 hzs hsz v xs.length cells h3 ad ys.length c news h5.length h6 h5.oneCell hml hby hbase
    have hO := own_append h4 h5 hF k1 k2 k4
    have hform : ∃ A' c', v' = .slice A' n c' := by
      obtain ⟨cells', ⟨hl, hv⟩, hc⟩ := hO
      rcases hv with ⟨hv, h0⟩ | ⟨g, cap, cur, hv, _⟩
      · rw [hn] at h0; subst h0; exact ⟨_, _, hv⟩
      · rw [hn] at hv; exact ⟨_, _, hv⟩
    obtain ⟨A', c', rfl⟩ := hform
    unfold Oper.wp execOp
    simp only [ho, resolve, invoke, builtin, Sem.run_bind, Sem.run_pure, Result.andThen_ok, List.map_toArray, List.map_cons, List.map_nil, hs, hx, hr]
    exact h A' c' w' hO ⟨below_app (Below.refl base w) k2 hown' (Nat.le_refl _) hbase, k2.block, k4.imp id fun he => ⟨_, he, Nat.le_refl _⟩⟩
  | none =>
    have hc := hsl.nil rfl
    have hl := hsl.le
    have hy : ys = [] := List.eq_nil_of_length_eq_zero (by omega)
    subst hy
    subst hc
    have hrun := run_append_owned_none (P := P) w base t o.type e i E.n ht hi v xs.length cells h3
    have hform : ∃ A' c', v = .slice A' n c' := by
      rcases h3.2 with ⟨hv, h0⟩ | ⟨g, cap, cur, hv, _⟩
      · rw [List.append_nil] at hn; rw [hn] at h0; subst h0; exact ⟨_, _, hv⟩
      · rw [List.append_nil] at hn; rw [hn] at hv; exact ⟨_, _, hv⟩
    obtain ⟨A', c', rfl⟩ := hform
    unfold Oper.wp execOp
    simp only [List.length_nil] at hx
    simp only [ho, resolve, invoke, builtin, Sem.run_bind, Sem.run_pure, Result.andThen_ok, List.map_toArray, List.map_cons, List.map_nil, hs, hx, hrun]
    exact h A' c' w (by unfold Hid; rw [List.append_nil]; exact hown') ⟨Below.refl base w, fun _ _ _ => rfl, .inl rfl⟩
theorem step_catG {ops : Array Oper} {o : Oper} {a : Act} {K : Act → World → Prop} {Q : Exit → Act → World → Prop} {D : Prop} {w : World} {base : Nat} {G : Nat → Prop} {v : Value} {xs : List α} (t e : TypeId) (z : Value) (bytes : Nat) (s x : Operand) (hgd : o.guard = none)
    (ho : o.op = .call { callee := .builtin .append, args := #[s, x], argTypes := #[t, t] })
    (ht : P.underlying t = some (.slice e)) (hinfo : (P.info? e).map (fun i => (i.zero, i.size, i.bytes)) = some (some z, E.n, bytes)) (hzs : z.cells.size = E.n) (hsz : 0 < E.n)
    (hs : a.eval s = v) (hown : Own E e base G w v xs) (A : Option Addr) (c : Nat) (ys : List α) (hx : a.eval x = .slice A ys.length c) (F : Nat → Prop) (hsl : SlAt E F w A c ys)
    (hF : ∀ k, F k → G k ∧ k < w.heap.size ∧ some k ≠ v.ownBlock) (n : Nat) (hn : (xs ++ ys).length = n) (hlen : Room n) (hb : bytes ≤ 131072) (hbase : base ≤ w.heap.size)
    (h : ∀ A' c' w', Hid (Own E e base G w' (.slice A' n c') (xs ++ ys)) → Hid (Grew base w w' v (.slice A' n c')) → K (a.put o.dst (.slice A' n c')) w') :
    if Region.wanted o (yielded ops a.tmps) = true then Oper.wp P o a w K Q else D := by
  rw [if_pos (by simp [Region.wanted, hgd])]
  exact wp_catG t e z bytes s x ho ht hinfo hzs hsz hs hown A c ys hx F hsl hF n hn hlen hb hbase h
end

/-- the zeros that 'make([]int, n)' lays, as a slice -/
theorem zeros_sl {w : World} {g n : Nat} {t : TypeId} {F : Nat → Prop} (h : Blk w g t (madeCells #[Value.int .i64 0] n)) (hF : F g) (hn : n ≤ maxLen) : SlAt (pI .i64) F w (some ⟨g, 0, none⟩) n (List.replicate n 0) := by
  rw [cellsN_made] at h
  have := sl_of_blk h hF hn fun i _ => (fits_i64 (by omega) : Fits .i64 0)
  rwa [List.map_const', List.length_range] at this
end Go.Proofs.YtckffdaomjbglaaDoor

/-! Fc -/
namespace Go.Proofs.YtckffdaomjbglaaDoor
open Go.RowKit

theorem info_frm : (Tryd.prog.info? 77).map (fun i => (i.zero, i.size, i.bytes)) = some (some (.agg #[.int .i64 0, .slice none 0 0]), 2, 32) := by kernel_rfl
theorem info_modC : (Tryd.prog.info? 50).map (fun i => (i.zero, i.size, i.bytes)) = some (some (.agg #[.int .u8 0, .slice none 0 0]), 2, 32) := by kernel_rfl
theorem info_intC : (Tryd.prog.info? 3).map (fun i => (i.zero, i.size, i.bytes)) = some (some (.int .i64 0), 1, 8) := by kernel_rfl

section
variable {ops : Array Oper} {rest : List Oper} {o o1 o2 : Oper} {a : Act} {Q : Exit → Act → World → Prop} {w : World} {base : Nat} {G : Nat → Prop} {v : Value}
/-- 'out = append(out, m)' over modules -/
theorem pushMod {xs : List Mod} (tmp : Nat) (s xo : Operand)
    (hg1 : o1.guard = none) (hg2 : o2.guard = none) (hd1 : o1.dst = some tmp) (ho1 : o1.op = .buildSlice 22 1 #[(0, xo)])
    (ho2 : o2.op = .call { callee := .builtin .append, args := #[s, .tmp tmp], argTypes := #[22, 22] })
    (hs : ∀ u, (a.put (some tmp) u).eval s = v) (ht2 : ∀ u, (a.put (some tmp) u).eval (.tmp tmp) = u) (hown : Own pMod 50 base G w v xs)
    (nm : Int) (A0 : Option Addr) (n0 c0 : Nat) (hu : a.eval xo = .agg #[.int .u8 nm, .slice A0 n0 c0]) (m : Mod) (F : Nat → Prop) (hR : pMod.R F w [.int .u8 nm, .slice A0 n0 c0] m) (hF : ∀ k, F k → G k ∧ k < w.heap.size ∧ some k ≠ v.ownBlock)
    (n : Nat) (hn : xs.length + 1 = n) (hlen : Room n) (hbase : base ≤ w.heap.size)
    (h : ∀ A' c' w', Hid (Own pMod 50 base G w' (.slice A' n c') (xs ++ [m])) → Hid (Grew base w w' v (.slice A' n c')) →
      wpList Tryd.prog ops Q rest ((a.put (some tmp) (.slice (some ⟨w.heap.size, 0, none⟩) 1 1)).put o2.dst (.slice A' n c')) w') : wpList Tryd.prog ops Q (o1 :: o2 :: rest) a w :=
  wpList_pushG (E := pMod) 22 50 (.agg #[.int .u8 0, .slice none 0 0]) 32 tmp s xo hg1 hg2 hd1 ho1 ho2 Tryd.underlying22 info_modC rfl (by decide) hs ht2 hown (.agg #[.int .u8 nm, .slice A0 n0 c0]) hu m F (by simpa [Value.cells] using hR) hF n hn
    (by unfold Room at *; omega) ⟨by decide, by decide⟩ hbase h
end

theorem Blk.rul {w : World} {g : Nat} {t : TypeId} {a0 a1 a2 a3 a4 a5 a6 : Value} (h : Blk w g t #[a0, a1, a2, a3, a4, a5, a6]) :
    w.cell? ⟨g, 0, none⟩ = some a0 ∧ w.cell? ⟨g, 1, none⟩ = some a1 ∧ w.cell? ⟨g, 2, none⟩ = some a2 ∧ w.cell? ⟨g, 3, none⟩ = some a3 ∧ w.cell? ⟨g, 4, none⟩ = some a4 ∧ w.cell? ⟨g, 5, none⟩ = some a5 ∧ w.cell? ⟨g, 6, none⟩ = some a6 :=
  ⟨h.cell 0, h.cell 1, h.cell 2, h.cell 3, h.cell 4, h.cell 5, h.cell 6⟩

def rulV (r : Rul) (A : Option Addr) (c : Nat) (A' : Option Addr) (c' : Nat) : Array Value := #[.int .u8 r.name, .int .i64 r.arity, .int .u8 r.left, .int .u8 r.right, .slice A r.guards.length c, .int .i64 r.weight, .slice A' r.out.length c']
structure RulAt (r : Rul) (F : Nat → Prop) (w : World) (A : Option Addr) (c : Nat) (A' : Option Addr) (c' : Nat) : Prop where
  fn : Fits .u8 r.name
  fa : Fits .i64 r.arity
  fl : Fits .u8 r.left
  fr : Fits .u8 r.right
  fw : Fits .i64 r.weight
  sg : SlAt pFrm F w A c r.guards
  so : SlAt pShp F w A' c' r.out

theorem mod_boxed {w : World} (c : Int) (hc : Fits .u8 c) : SlAt pMod (Old (w.alloc (.cells #[.int .u8 c, .slice none 0 0] 50))) (w.alloc (.cells #[.int .u8 c, .slice none 0 0] 50)) (some ⟨w.heap.size, 0, none⟩) 1 [⟨c, []⟩] := by
  refine (sl_boxed (E := pMod) (F := fun _ => False) (u := .agg #[.int .u8 c, .slice none 0 0]) ⟨none, 0, rfl, hc, ⟨Nat.le_refl _, Nat.zero_le _, fun _ => rfl, fun i x hx => by simp at hx⟩⟩ (fun k hk => hk.elim)).wide ?_
  intro k hk
  rcases hk with hk | rfl
  · exact hk.elim
  · unfold Old; simp

/-- the check of one bare module, boxed at the heap's end -/
theorem oneCheck (W : World) (c : Int) (hc : Fits .u8 c) (n : Nat) (hn : W.heap.size = n) : Calls Tryd.prog 28 #[.slice (some ⟨n, 0, none⟩) 1 1] (W.alloc (.cells #[.int .u8 c, .slice none 0 0] 50)) (CheckPost [⟨c, []⟩] (W.alloc (.cells #[.int .u8 c, .slice none 0 0] 50))) := by
  subst hn
  exact wordCheck_calls (some ⟨W.heap.size, 0, none⟩) 1 [⟨c, []⟩] _ (mod_boxed c hc)

/-- the tests ahead of the loops -/
theorem fineR_cases (r : Rul) : (fineR r = false ∧ (r.arity < 0 ∨ (¬ r.arity < 0 ∧ 4 < r.arity) ∨ (¬ r.arity < 0 ∧ ¬ 4 < r.arity ∧ (r.name == 91) = true) ∨ (¬ r.arity < 0 ∧ ¬ 4 < r.arity ∧ (r.name == 91) = false ∧ (r.name == 93) = true))) ∨
    (¬ r.arity < 0 ∧ ¬ 4 < r.arity ∧ (r.name == 91) = false ∧ (r.name == 93) = false ∧
      ((fineR r = false ∧ ((checkF [⟨r.name, []⟩] != 0) = true ∨ ((checkF [⟨r.name, []⟩] != 0) = false ∧ (r.left != 0) = true) ∨ ((checkF [⟨r.name, []⟩] != 0) = false ∧ (r.left != 0) = false ∧ (r.right != 0) = true) ∨
        ((checkF [⟨r.name, []⟩] != 0) = false ∧ (r.left != 0) = false ∧ (r.right != 0) = false ∧ (r.weight != 0) = true))) ∨
       ((checkF [⟨r.name, []⟩] != 0) = false ∧ (r.left != 0) = false ∧ (r.right != 0) = false ∧ (r.weight != 0) = false ∧
        fineR r = (r.guards.all (fun f => formF f r.arity.toNat) && r.out.all (fun s => s.args.all (fun f => formF f r.arity.toNat)) && checkF (r.out.map fun s => ⟨s.name, List.replicate s.args.length 0⟩) == 0)))) := by
  have hn := check_one r.name
  by_cases h1 : r.arity < 0
  · left; exact ⟨by unfold fineR coreR; simp; omega, .inl h1⟩
  by_cases h2 : 4 < r.arity
  · left; exact ⟨by unfold fineR coreR; simp; omega, .inr (.inl ⟨h1, h2⟩)⟩
  by_cases h3 : r.name = 91
  · left; exact ⟨by unfold fineR coreR; simp [h3], .inr (.inr (.inl ⟨h1, h2, by simp [h3]⟩))⟩
  by_cases h4 : r.name = 93
  · left; exact ⟨by unfold fineR coreR; simp [h4], .inr (.inr (.inr ⟨h1, h2, by simp [h3], by simp [h4]⟩))⟩
  right
  refine ⟨h1, h2, by simp [h3], by simp [h4], ?_⟩
  by_cases h5 : checkF [⟨r.name, []⟩] = 0
  · have hl := (hn.1 h5).1
    by_cases h6 : r.left = 0
    · by_cases h7 : r.right = 0
      · by_cases h8 : r.weight = 0
        · right
          refine ⟨by simp [h5], by simp [h6], by simp [h7], by simp [h8], ?_⟩
          unfold fineR coreR bareR
          simp only [hl, h6, h7, h8, show (r.name != 91) = true by simp [h3], show (r.name != 93) = true by simp [h4], show decide (0 ≤ r.arity) = true by simp; omega, show decide (r.arity ≤ 4) = true by simp; omega]
          simp
        · left; exact ⟨by unfold fineR bareR; simp [h8], .inr (.inr (.inr ⟨by simp [h5], by simp [h6], by simp [h7], by simp [h8]⟩))⟩
      · left; exact ⟨by unfold fineR bareR; simp [h7], .inr (.inr (.inl ⟨by simp [h5], by simp [h6], by simp [h7]⟩))⟩
    · left; exact ⟨by unfold fineR bareR; simp [h6], .inr (.inl ⟨by simp [h5], by simp [h6]⟩)⟩
  · left
    have hl : letterB r.name = false := by
      cases hb : letterB r.name
      · rfl
      · exact absurd (hn.2 ⟨hb, h3, h4⟩) h5
    exact ⟨by unfold fineR coreR; simp [hl], .inl (by simp [h5])⟩

/-- the box of a shape, a row of zeros and the box of a module, laid behind each other -/
theorem made_mod {wo : World} {base : Nat} {G : Nat → Prop} {v : Value} {xs : List Mod} (how : Own pMod 50 base G wo v xs) (hb : base ≤ wo.heap.size) (sh : Obj) (nm : Int) (h8 : Fits .u8 nm) (n : Nat) (hn : n ≤ 1000) (Z : Array Value) (hZ : madeCells #[Value.int .i64 0] n = Z) :
    Own pMod 50 base (fun q => G q ∨ wo.heap.size < q) ((((wo.alloc sh).alloc (.cells Z 3)).alloc (.cells #[.int .u8 nm, .slice (some ⟨wo.heap.size + 1, 0, none⟩) n n] 50)).drew) v xs ∧
    SlAt pMod (fun q => q = wo.heap.size + 1 ∨ q = wo.heap.size + 2) ((((wo.alloc sh).alloc (.cells Z 3)).alloc (.cells #[.int .u8 nm, .slice (some ⟨wo.heap.size + 1, 0, none⟩) n n] 50)).drew) (some ⟨wo.heap.size + 2, 0, none⟩) 1 [⟨nm, List.replicate n 0⟩] ∧
    (∀ q, (q = wo.heap.size + 1 ∨ q = wo.heap.size + 2) → (G q ∨ wo.heap.size < q) ∧ q < ((((wo.alloc sh).alloc (.cells Z 3)).alloc (.cells #[.int .u8 nm, .slice (some ⟨wo.heap.size + 1, 0, none⟩) n n] 50)).drew).heap.size ∧ some q ≠ v.ownBlock) ∧
    base ≤ ((((wo.alloc sh).alloc (.cells Z 3)).alloc (.cells #[.int .u8 nm, .slice (some ⟨wo.heap.size + 1, 0, none⟩) n n] 50)).drew).heap.size := by
  subst hZ
  have hb1 : Blk ((wo.alloc sh).alloc (.cells (madeCells #[Value.int .i64 0] n) 3)) (wo.heap.size + 1) 3 (madeCells #[Value.int .i64 0] n) := by
    have := Blk.new (wo.alloc sh) 3 (madeCells #[Value.int .i64 0] n)
    simpa using this
  have hz := zeros_sl (F := fun q => q = wo.heap.size + 1) hb1 rfl (by unfold maxLen; omega)
  have hs : SlAt pMod (fun q => q = wo.heap.size + 1 ∨ q = wo.heap.size + 2) (((wo.alloc sh).alloc (.cells (madeCells #[Value.int .i64 0] n) 3)).alloc (.cells #[.int .u8 nm, .slice (some ⟨wo.heap.size + 1, 0, none⟩) n n] 50)) (some ⟨wo.heap.size + 2, 0, none⟩) 1 [⟨nm, List.replicate n 0⟩] := by
    have := sl_boxed (E := pMod) (e := 50) (w := (wo.alloc sh).alloc (.cells (madeCells #[Value.int .i64 0] n) 3)) (F := fun q => q = wo.heap.size + 1) (x := ⟨nm, List.replicate n 0⟩) (u := .agg #[.int .u8 nm, .slice (some ⟨wo.heap.size + 1, 0, none⟩) n n])
      ⟨some ⟨wo.heap.size + 1, 0, none⟩, n, by simp [Value.cells], h8, hz⟩ (fun k hk => by subst hk; simp)
    simpa [Value.cells] using this
  refine ⟨((((how.alloc _).alloc _).alloc _).drew).wideG fun k _ hk => .inl hk, hs.keep fun _ _ => rfl, fun q hq => ⟨.inr (by omega), by simp; omega, fun he => ?_⟩, by simp; omega⟩
  have := how.lt q he.symm
  omega

def formsK (r : Rul) (k : Nat) : List Frm := r.guards ++ (r.out.take k).flatMap (fun s => s.args)
theorem flat_len : ∀ (l : List Shp), (∀ s ∈ l, s.args.length ≤ 10) → (l.flatMap (fun s => s.args)).length ≤ l.length * 10
  | [], _ => by simp
  | s :: l, h => by
    have h1 := h s (by simp)
    have h2 := flat_len l fun x hx => h x (by simp [hx])
    simp only [List.flatMap_cons, List.length_append, List.length_cons]; omega
theorem formsK_len {r : Rul} (h : ∀ s ∈ r.out, s.args.length ≤ 10) (hg : r.guards.length ≤ 10) (ho : r.out.length ≤ 30) (k : Nat) : (formsK r k).length ≤ 310 := by
  have h1 := flat_len (r.out.take k) fun s hs => h s (List.mem_of_mem_take hs)
  have h2 := List.length_take_le k r.out
  have h3 := List.length_take_le' k r.out
  unfold formsK; rw [List.length_append]; omega
theorem formsK_succ {r : Rul} {k : Nat} {s : Shp} (h : r.out.drop k = s :: r.out.drop (k + 1)) : formsK r (k + 1) = formsK r k ++ s.args := by
  unfold formsK; rw [take_of_drop h, List.flatMap_append, ← List.append_assoc]; simp
theorem formsK_all (r : Rul) (p : Frm → Bool) : (formsK r r.out.length).all p = (r.guards.all p && r.out.all (fun s => s.args.all p)) := by
  unfold formsK; rw [List.take_length, List.all_append, List.all_flatMap]
def modsK (r : Rul) (k : Nat) : List Mod := (r.out.take k).map fun s => ⟨s.name, List.replicate s.args.length 0⟩

set_option maxRecDepth 100000 in
set_option maxHeartbeats 2000000 in
theorem rFine_calls (r : Rul) (A : Option Addr) (c : Nat) (A' : Option Addr) (c' : Nat) (w : World) (h : RulAt r (Old w) w A c A' c') (hg10 : r.guards.length ≤ 10) (ho30 : r.out.length ≤ 30) (ha10 : ∀ s ∈ r.out, s.args.length ≤ 10) :
    Calls Tryd.prog 30 #[.agg #[.int .u8 r.name, .int .i64 r.arity, .int .u8 r.left, .int .u8 r.right, .slice A r.guards.length c, .int .i64 r.weight, .slice A' r.out.length c']] w (BoolPost (fineR r) w) := by
  have hcase := fineR_cases r
  have hn := h.fn
  have hai := h.fa.i64
  have hbx : Blk (w.alloc (.cells #[.int .u8 r.name, .int .i64 r.arity, .int .u8 r.left, .int .u8 r.right, .slice A r.guards.length c, .int .i64 r.weight, .slice A' r.out.length c'] 43)) w.heap.size 43 #[.int .u8 r.name, .int .i64 r.arity, .int .u8 r.left, .int .u8 r.right, .slice A r.guards.length c, .int .i64 r.weight, .slice A' r.out.length c'] := Blk.new _ _ _
  have hb0 : Below w.heap.size w (w.alloc (.cells #[.int .u8 r.name, .int .i64 r.arity, .int .u8 r.left, .int .u8 r.right, .slice A r.guards.length c, .int .i64 r.weight, .slice A' r.out.length c'] 43)) := (Below.refl _ _).alloc (Nat.le_refl _) _
  have hz0 : (w.alloc (.cells #[.int .u8 r.name, .int .i64 r.arity, .int .u8 r.left, .int .u8 r.right, .slice A r.guards.length c, .int .i64 r.weight, .slice A' r.out.length c'] 43)).heap.size = w.heap.size + 1 := by simp
  have H := Lib.hid h; clear h
  have Ha10 := Lib.hid ha10; clear ha10
  have Hbx := Lib.hid hbx; clear hbx
  have Hb0 := Lib.hid hb0; clear hb0
  have Hz0 := Lib.hid hz0; clear hz0
  rcases hcase with ⟨hno, hc⟩ | ⟨h1, h2, h3, h4, hc⟩
  · have Hno := Lib.hid hno; clear hno
    go_enter Tryd.func30, Tryd.ntmps30
    rcases hc with h1 | ⟨h1, h2⟩ | ⟨h1, h2, h3⟩ | ⟨h1, h2, h3, h4⟩
    all_goals
      go_wp2
      go_ret
      exact ⟨by rw [Hno.out]; rfl, Hb0.out⟩
  · go_enter Tryd.func30, Tryd.ntmps30
    go_wp2_with fail
    ((with_reducible refine (oneCheck _ _ hn _ Hz0.out).mono ?_))
    rintro e w1 ⟨rfl, hb1⟩
    have hz1 : w.heap.size + 2 ≤ w1.heap.size := by have := hb1.size; simp at this; omega
    have hbl1 : Blk w1 w.heap.size 43 #[.int .u8 r.name, .int .i64 r.arity, .int .u8 r.left, .int .u8 r.right, .slice A r.guards.length c, .int .i64 r.weight, .slice A' r.out.length c'] :=
      (Hbx.out.alloc _).same (hb1.block _ (by simp; omega))
    obtain ⟨x0, x1, x2, x3, x4, x5, x6⟩ := hbl1.rul
    have hbw1 : Below w.heap.size w w1 := (Hb0.out.alloc (by simp) _).trans (hb1.mono (by simp; omega))
    have Hbl1 := Lib.hid hbl1; clear hbl1
    have Hbw1 := Lib.hid hbw1; clear hbw1
    clear hb1
    rcases hc with ⟨hno, h5 | ⟨h5, h6⟩ | ⟨h5, h6, h7⟩ | ⟨h5, h6, h7, h8⟩⟩ | ⟨h5, h6, h7, h8, hyes⟩
    iterate 4
      · have Hno := Lib.hid hno; clear hno
        go_wp2
        go_ret
        exact ⟨by rw [Hno.out]; rfl, Hbw1.out⟩
    · have hnil : Own pFrm 77 (w.heap.size + 1) (Old w) w1 (.slice none 0 0) [] := Own.nil
      have hsg : SlAt pFrm (Old w) w1 A c r.guards := H.out.sg.below Hbw1.out
      have Hyes := Lib.hid hyes; clear hyes
      have Hnil := Lib.hid hnil; clear hnil
      have Hsg := Lib.hid hsg; clear hsg
      go_wp2_with (at_builtin; refine wpList_cat (E := pFrm) (xs := []) (v := .slice none 0 0) (base := w.heap.size + 1) (G := Old w) 40 77 (.agg #[.int .i64 0, .slice none 0 0]) 32 _ (.tmp 51) rfl rfl Tryd.underlying40 info_frm rfl (by decide) rfl Hnil.out A c r.guards rfl (Old w) Hsg.out ?a2 r.guards.length rfl (room_of ?a3) (by decide) ?a4 ?_; rotate_right; intro A1 c1 w2 hown1 hb2 hk2; have Hown1 := Lib.hid hown1; clear hown1 hk2; have hbl2 := Hbl1.out.same (hb2.block _ (Nat.lt_succ_self _)); obtain ⟨y0, y1, y2, y3, y4, y5, y6⟩ := hbl2.rul; have Hbl2 := Lib.hid hbl2; have Hb2 := Lib.hid (Hbw1.out.trans (hb2.mono (Nat.le_succ _))); have hz2 := hb2.size; clear hbl2 hb2)
      case a2 => intro q hq; have : q < w.heap.size := hq; exact ⟨hq, by omega, by simp [Value.ownBlock]⟩
      case a3 => omega
      case a4 => omega
      have hz2' : w.heap.size + 1 ≤ w2.heap.size := by omega
      clear x0 x1 x2 x3 x4 x5 x6 hz1 hz2
      go_loopw [56, 3, 4] (fun i fo ws wr => ∃ k : Nat, k ≤ r.out.length ∧ i = .int .i64 k ∧ w.heap.size + 1 ≤ wr.heap.size ∧ Hid (Below w.heap.size w wr) ∧ Hid (Blk wr w.heap.size 43 #[.int .u8 r.name, .int .i64 r.arity, .int .u8 r.left, .int .u8 r.right, .slice A r.guards.length c, .int .i64 r.weight, .slice A' r.out.length c']) ∧
        ∃ Af cf Aw cw, fo = .slice Af (formsK r k).length cf ∧ ws = .slice Aw k cw ∧ ∃ G, Hid (Own pFrm 77 (w.heap.size + 1) (Old w) wr fo (formsK r k)) ∧ Hid (Own pMod 50 (w.heap.size + 1) G wr ws (modsK r k)) ∧
          Hid (∀ q, G q → w.heap.size + 1 ≤ q ∧ q < wr.heap.size ∧ fo.ownBlock ≠ some q) ∧ Hid (∀ q, fo.ownBlock = some q → ws.ownBlock ≠ some q)) (fun i _ _ _ => r.out.length - (intOf i).toNat)
      case atStart =>
        have hm0 : Own pMod 50 (w.heap.size + 1) (fun _ => False) w2 (.slice none 0 0) (modsK r 0) := Own.nil
        have hf0 : formsK r 0 = r.guards := by unfold formsK; simp
        refine ⟨0, Nat.zero_le _, rfl, hz2', Hb2, Hbl2, A1, c1, none, 0, by rw [hf0], rfl, fun _ => False, ?_, hm0, fun q hq => hq.elim, fun q _ he => by cases he⟩
        unfold Hid; rw [hf0]; exact Hown1.out
      case round =>
        obtain ⟨k, hk, rfl, hzr, hbr, hblr, Af, cf, Aw, cw, rfl, rfl, G, hof, how, hG, hdj⟩ := hrel
        obtain ⟨wo, rfl⟩ : ∃ wo : World, wo = wr := ⟨_, rfl⟩
        obtain ⟨z0, z1, z2, z3, z4, z5, z6⟩ := hblr.out.rul
        clear y0 y1 y2 y3 y4 y5 y6
        by_cases hlt : k < r.out.length
        · obtain ⟨b, o, As, cs, s, hd, rfl, hob, hs0, hs1, hs8, hsa, hsl⟩ := (H.out.so.below hbr.out).getShp hlt
          have hob' : b < wo.heap.size := by have : b < w.heap.size := hob; omega
          have hk0 : (0 : Int) ≤ (k : Int) := Int.natCast_nonneg _
          have hk1 : (k : Int) < (r.out.length : Int) := by omega
          have hal : s.args.length ≤ 10 := Ha10.out _ (mem_of_drop hd.out)
          obtain ⟨Z, hZ⟩ : ∃ Z, madeCells #[Value.int .i64 0] s.args.length = Z := ⟨_, rfl⟩
          have hmk := fun (wx : World) => run_make_rowN (P := Tryd.prog) (t := 48) (e := 3) Tryd.underlying48 info_intC s.args.length (by omega) (by omega) wx
          rw [show madeCells (Value.int .i64 0).cells (s.args.length * 1) = Z from by rw [Nat.mul_one]; exact hZ] at hmk
          have hmm := made_mod how.out hzr (.cells #[.int .u8 s.name, .slice As s.args.length cs] 45) s.name hs8 s.args.length (by omega) Z hZ
          have hk3 : (modsK r k ++ ([⟨s.name, List.replicate s.args.length 0⟩] : List Mod)).length = k + 1 := by unfold modsK; simp; omega
          have hr3 : Room (k + 1) := room_of (by omega)
          have hsq : some wo.heap.size ≠ (Value.slice Aw k cw).ownBlock := fun he => by have := how.out.lt _ he.symm; omega
          have kp : ∀ (u : Value) (w3 : World), Hid (Grew (w.heap.size + 1) ((((wo.alloc (.cells #[.int .u8 s.name, .slice As s.args.length cs] 45)).alloc (.cells Z 3)).alloc (.cells #[.int .u8 s.name, .slice (some ⟨wo.heap.size + 1, 0, none⟩) s.args.length s.args.length] 50)).drew) w3 (.slice Aw k cw) u) →
              Blk w3 wo.heap.size 45 #[.int .u8 s.name, .slice As s.args.length cs] := fun u w3 hg => by
            have h1 := hg.out.oth wo.heap.size (by simp; omega) hsq
            exact Blk.same ((((Blk.new wo 45 #[.int .u8 s.name, .slice As s.args.length cs]).alloc _).alloc _).same rfl) h1
          have Hmm := Lib.hid hmm; clear hmm
          have HZ := Lib.hid hZ; clear hZ
          have Hk3 := Lib.hid hk3; clear hk3
          have Hr3 := Lib.hid hr3; clear hr3
          have Kp := Lib.hid kp; clear kp
          go_wp2_with fail
          go_region_held3 (fun w' => w'.cell? ⟨wo.heap.size, 0, none⟩ = some (.int .u8 s.name) ∧ w'.cell? ⟨wo.heap.size, 1, none⟩ = some (.slice As s.args.length cs))
            (first | go_keep | exact ⟨(Kp.out _ _ hg3).cell 0, (Kp.out _ _ hg3).cell 1⟩)
            (first | (refine step_catG (E := pMod) (xs := modsK r k) 22 50 (.agg #[.int .u8 0, .slice none 0 0]) 32 (.tmp 60) (.tmp 68) rfl rfl Tryd.underlying22 info_modC rfl (by decide) rfl Hmm.out.1 _ 1 [⟨s.name, List.replicate s.args.length 0⟩] rfl _ Hmm.out.2.1 Hmm.out.2.2.1 (k + 1) Hk3.out Hr3.out (by decide) Hmm.out.2.2.2 ?_; intro A3 c3 w3 hown3 hg3))
          have hz3 : wo.heap.size + 3 ≤ w3.heap.size := by have := hg3.out.bel.size; simp at this; omega
          have hbo3 : Below (w.heap.size + 1) wo w3 := (below_drew ((((Below.refl _ _).alloc hzr _).alloc (by simp; omega) _).alloc (by simp; omega) _)).trans hg3.out.bel
          have hof3 : Own pFrm 77 (w.heap.size + 1) (Old w) w3 (.slice Af (formsK r k).length cf) (formsK r k) :=
            ((((hof.out.alloc _).alloc _).alloc _).drew).beside hg3.out fun q hq => ⟨fun ho => by have := how.out.lt q hq; unfold Old at ho; omega, fun he => hdj.out q he hq⟩
          have hbs3 := Kp.out _ _ hg3
          have hs3 : SlAt pFrm (Old w) w3 As cs s.args := hsa.out.keep fun q hq => hbo3.block q (Nat.lt_succ_of_lt hq)
          have hcs3 : w3.cell? ⟨wo.heap.size, 1, none⟩ = some (.slice As s.args.length cs) := hbs3.cell 1
          have hfk : (formsK r k ++ s.args).length = (formsK r (k + 1)).length := by rw [formsK_succ hd.out]
          have hrf : Room (formsK r (k + 1)).length := room_of (by have := formsK_len Ha10.out hg10 ho30 (k + 1); omega)
          have Hbo3 := Lib.hid hbo3; clear hbo3
          have Hof3 := Lib.hid hof3; clear hof3
          have Hbs3 := Lib.hid hbs3; clear hbs3
          have Hs3 := Lib.hid hs3; clear hs3
          have Hfk := Lib.hid hfk; clear hfk
          have Hrf := Lib.hid hrf; clear hrf
          clear z0 z1 z2 z3 z4 z5 z6 hs0 hs1 hmk
          go_wp2_with (at_builtin; refine wpList_catG (E := pFrm) (xs := formsK r k) (v := .slice Af (formsK r k).length cf) (base := w.heap.size + 1) (G := Old w) 40 77 (.agg #[.int .i64 0, .slice none 0 0]) 32 (.tmp 70) (.tmp 72) rfl rfl Tryd.underlying40 info_frm rfl (by decide) rfl Hof3.out As cs s.args rfl (Old w) Hs3.out ?a2 (formsK r (k + 1)).length Hfk.out Hrf.out (by decide) ?a4 ?_; rotate_right; intro A4 c4 w4 hown4 hg4)
          case a2 =>
            intro q hq
            have hq' : q < w.heap.size := hq
            exact ⟨hq, by omega, fun he => by have := Hof3.out.lt q he.symm; omega⟩
          case a4 => omega
          go_roundw
          case rel =>
            have hz4 := hg4.out.bel.size
            have hfo := fun q (hq : (Value.slice Af (formsK r k).length cf).ownBlock = some q) => hof.out.lt q hq
            have hnot : ∀ q, (Value.slice Af (formsK r k).length cf).ownBlock = some q → ¬ (G q ∨ (wo.heap.size < q ∧ q < w3.heap.size)) ∧ (Value.slice A3 (k + 1) c3).ownBlock ≠ some q := by
              intro q hq
              have h1 := hfo q hq
              refine ⟨fun hg => ?_, fun he => ?_⟩
              · rcases hg with hg | hg
                · exact (hG.out q hg).2.2 hq
                · omega
              · rcases hg3.out.blk with hb | ⟨m, hm, hm2⟩
                · rw [hb] at he; exact hdj.out q hq he
                · rw [hm] at he; cases he; simp at hm2; omega
            have hm3 : Own pMod 50 (w.heap.size + 1) (fun q => G q ∨ (wo.heap.size < q ∧ q < w3.heap.size)) w3 (.slice A3 (k + 1) c3) (modsK r (k + 1)) := by
              have h1 := hown3.out.wideG (G' := fun q => G q ∨ (wo.heap.size < q ∧ q < w3.heap.size)) fun q hq hg => hg.imp id fun h => ⟨h, hq⟩
              have h2 : modsK r (k + 1) = modsK r k ++ [⟨s.name, List.replicate s.args.length 0⟩] := by unfold modsK; rw [take_of_drop hd.out, List.map_append]; rfl
              rw [h2]; exact h1
            refine ⟨k + 1, by omega, by go_num, by omega, (hbr.out.trans (Hbo3.out.mono (Nat.le_succ _))).trans (hg4.out.bel.mono (Nat.le_succ _)), ?_, A4, c4, A3, c3, rfl, rfl, _, ?_, hm3.beside hg4.out hnot, ?_, ?_⟩
            · exact (hblr.out.same (Hbo3.out.block _ (Nat.lt_succ_self _))).same (hg4.out.bel.block _ (Nat.lt_succ_self _))
            · rw [formsK_succ hd.out] at hown4 ⊢; exact hown4
            · intro q hg
              refine ⟨?_, ?_, fun he => ?_⟩
              · rcases hg with hg | hg
                · exact (hG.out q hg).1
                · omega
              · rcases hg with hg | hg
                · have := (hG.out q hg).2.1; omega
                · omega
              · rcases hg4.out.blk with hb | ⟨m, hm, hm2⟩
                · rw [hb] at he; exact (hnot q he).1 hg
                · rw [hm] at he; cases he
                  rcases hg with hg | hg
                  · have := (hG.out _ hg).2.1; omega
                  · omega
            · intro q he
              rcases hg4.out.blk with hb | ⟨m, hm, hm2⟩
              · rw [hb] at he; exact (hnot q he).2
              · rw [hm] at he; cases he
                intro he2
                have := (hm3.lt _ he2).2
                omega
          case measure => simp [intOf]; omega
        · obtain rfl : k = r.out.length := by omega
          obtain ⟨_, hsf⟩ := hof.out.sl'
          obtain ⟨hlw, hsw⟩ := how.out.sl'
          have hr4 : 0 ≤ r.arity ∧ r.arity ≤ 4 := by omega
          have hfl : (formsK r r.out.length).length ≤ 310 := formsK_len Ha10.out hg10 ho30 _
          have hy2 : fineR r = ((formsK r r.out.length).all (fun f => formF f r.arity.toNat) && checkF (modsK r r.out.length) == 0) := by
            rw [Hyes.out, formsK_all]; unfold modsK; rw [List.take_length]
          have Hsf := Lib.hid hsf; clear hsf
          have Hsw := Lib.hid hsw; clear hsw
          have Hlw := Lib.hid hlw; clear hlw
          have Hy2 := Lib.hid hy2; clear hy2
          clear hof how hG hdj z0 z1 z2 z3 z4 z5 z6 hlt
          go_wp2
          go_loopw [77] (fun i wr => ∃ k2 : Nat, k2 ≤ (formsK r r.out.length).length ∧ i = .int .i64 k2 ∧ Hid (Below wo.heap.size wo wr) ∧ wo.heap.size ≤ wr.heap.size ∧ Hid ((formsK r r.out.length).all (fun f => formF f r.arity.toNat) = ((formsK r r.out.length).drop k2).all (fun f => formF f r.arity.toNat))) (fun i _ => (formsK r r.out.length).length - (intOf i).toNat)
          case atStart => exact ⟨0, Nat.zero_le _, rfl, Below.refl _ _, Nat.le_refl _, rfl⟩
          case round =>
            obtain ⟨k2, hk2, rfl, hb2, hz2, hall⟩ := hrel
            obtain ⟨wp, rfl⟩ : ∃ wp : World, wp = wr := ⟨_, rfl⟩
            by_cases hlt : k2 < (formsK r r.out.length).length
            · obtain ⟨b, o, As, cs, f, hd, rfl, hob, hs0, hs1, hsc, hsa, hsl⟩ := ((Hsf.out.keep fun q hq => hb2.out.block q hq.2)).getFrm hlt
              have hob' : b < wp.heap.size := by have := hob.2; omega
              have hwl : w.heap.size < wp.heap.size := by omega
              have hblp := (hblr.out.same (hb2.out.block _ hzr))
              obtain ⟨z0, z1, z2, z3, z4, z5, z6⟩ := hblp.rul
              clear z0 z2 z3 z4 z5 z6 hblp
              have hk0 : (0 : Int) ≤ (k2 : Int) := Int.natCast_nonneg _
              have hk1 : (k2 : Int) < ((formsK r r.out.length).length : Int) := by omega
              have hcall : ∀ W : World, Below wp.heap.size wp W → Calls Tryd.prog 40 #[.agg #[.int .i64 f.const, .slice As f.coefs.length cs], .int .i64 r.arity] W (BoolPost (formF f r.arity.toNat) W) := fun W hW =>
                form_int As cs f r.arity W (hsa.out.keep fun q hq => hW.block q (by have := hq.2; omega)) (fun q hq => by have := hq.2; have := hW.size; omega) hsc hr4
              have hzz := hb2.out.size
              have Hcall := Lib.hid hcall; clear hcall
              go_wp2_with fail
              refine (Hcall.out _ ((Below.refl _ _).alloc (Nat.le_refl _) _)).mono ?_
              rintro e w5 ⟨rfl, hb5⟩
              have hbw5 : Below wp.heap.size wp w5 := ((Below.refl _ _).alloc (Nat.le_refl _) _).trans (hb5.mono (by simp))
              have hz5 := hbw5.size
              have Hbw5 := Lib.hid hbw5; clear hbw5
              clear hb5
              cases hfm : formF f r.arity.toNat
              · go_wp2
                go_ret
                refine ⟨ret_bool ?_, (hbr.out.trans (hb2.out.mono (by omega))).trans (Hbw5.out.mono (by omega))⟩
                rw [Hy2.out, hall.out, hd.out, List.all_cons, hfm]; rfl
              · go_wp2
                go_roundw
                case rel =>
                  refine ⟨k2 + 1, by omega, by go_num, hb2.out.trans (Hbw5.out.mono hz2), by omega, ?_⟩
                  unfold Hid; rw [hall.out, hd.out, List.all_cons, hfm]; rfl
                case measure => simp [intOf]; omega
            · have ha : fineR r = (checkF (modsK r r.out.length) == 0) := by rw [Hy2.out, hall.out, drop_end hlt]; rfl
              have hck : Calls Tryd.prog 28 #[.slice Aw r.out.length cw] wp (CheckPost (modsK r r.out.length) wp) := by
                have := wordCheck_calls Aw cw (modsK r r.out.length) wp ((Hsw.out.keep fun q hq => hb2.out.block q hq.2).wide fun q hq => Nat.lt_of_lt_of_le hq.2 hz2)
                rwa [Hlw.out] at this
              have Ha := Lib.hid ha; clear ha
              have Hck := Lib.hid hck; clear hck
              go_wp2_with fail
              refine Hck.out.mono ?_
              rintro e w5 ⟨rfl, hb5⟩
              have hbw5 : Below w.heap.size w w5 := (hbr.out.trans (hb2.out.mono (by omega))).trans (hb5.mono (by omega))
              have Hbw5 := Lib.hid hbw5; clear hbw5
              clear hb5
              go_wp2
              go_ret
              exact ⟨by rw [Ha.out]; rfl, Hbw5.out⟩

end Go.Proofs.YtckffdaomjbglaaDoor

/-! Wc -/
namespace Go.Proofs.YtckffdaomjbglaaDoor
open Go.RowKit

theorem openL_open {m : Mod} {ms : List Mod} {n : Nat} (h : m.name = 91) : openL n (m :: ms) = (openL (n + 1) ms).map ((((n + 1 : Nat) : Int)) :: ·) := by
  conv => lhs; unfold openL
  rw [if_pos h]
theorem openL_close {m : Mod} {ms : List Mod} {n : Nat} (h : m.name = 93) (h0 : ¬ n = 0) : openL n (m :: ms) = (openL (n - 1) ms).map (((n - 1 : Nat) : Int) :: ·) := by
  conv => lhs; unfold openL
  rw [if_neg (by omega), if_pos h, if_neg h0]
theorem openL_no {m : Mod} {ms : List Mod} {n : Nat} (h : m.name = 93) (h0 : n = 0) : openL n (m :: ms) = none := by
  conv => lhs; unfold openL
  rw [if_neg (by omega), if_pos h, if_pos h0]
theorem openL_else {m : Mod} {ms : List Mod} {n : Nat} (h : ¬ m.name = 91) (h' : ¬ m.name = 93) : openL n (m :: ms) = (openL n ms).map ((n : Int) :: ·) := by
  conv => lhs; unfold openL
  rw [if_neg h, if_neg h']

def OpenPost (ms : List Mod) (w : World) (e : Ending) (w' : World) : Prop :=
  Below w.heap.size w w' ∧ ((openL 0 ms = none ∧ e = .returned (.tuple #[.slice none 0 0, .bool false])) ∨
    ∃ l A c, openL 0 ms = some l ∧ l.length = ms.length ∧ e = .returned (.tuple #[.slice A l.length c, .bool true]) ∧ SlAt (pI .i64) (fun k => w.heap.size ≤ k ∧ k < w'.heap.size) w' A c l)
theorem openL_length : ∀ {ms : List Mod} {n : Nat} {l : List Int}, openL n ms = some l → l.length = ms.length
  | [], n, l, h => by cases h; rfl
  | m :: ms, n, l, h => by
    unfold openL at h
    split at h
    · obtain ⟨l', h1, rfl⟩ := Option.map_eq_some_iff.1 h
      simp [openL_length h1]
    · split at h
      · split at h
        · cases h
        · obtain ⟨l', h1, rfl⟩ := Option.map_eq_some_iff.1 h
          simp [openL_length h1]
      · obtain ⟨l', h1, rfl⟩ := Option.map_eq_some_iff.1 h
        simp [openL_length h1]
section
/-- 'out = append(out, n)' over []int -/
theorem pushI {ops : Array Oper} {rest : List Oper} {o1 o2 : Oper} {a : Act} {Q : Exit → Act → World → Prop} {w : World} {base : Nat} {G : Nat → Prop} {v : Value} {xs : List Int} (tmp : Nat) (s xo : Operand)
    (hg1 : o1.guard = none) (hg2 : o2.guard = none) (hd1 : o1.dst = some tmp) (ho1 : o1.op = .buildSlice 48 1 #[(0, xo)])
    (ho2 : o2.op = .call { callee := .builtin .append, args := #[s, .tmp tmp], argTypes := #[48, 48] })
    (hs : ∀ u, (a.put (some tmp) u).eval s = v) (ht2 : ∀ u, (a.put (some tmp) u).eval (.tmp tmp) = u) (hown : Own (pI .i64) 3 base G w v xs)
    (n : Int) (hu : a.eval xo = .int .i64 n) (hf : Fits .i64 n) (hlen : Room xs.length) (hbase : base ≤ w.heap.size)
    (h : ∀ A' c' w', Hid (Own (pI .i64) 3 base G w' (.slice A' (xs.length + 1) c') (xs ++ [n])) → Below base w w' → Hid (∀ k, k < w.heap.size → some k ≠ v.ownBlock → w'.heap[k]? = w.heap[k]?) →
      wpList Tryd.prog ops Q rest ((a.put (some tmp) (.slice (some ⟨w.heap.size, 0, none⟩) 1 1)).put o2.dst (.slice A' (xs.length + 1) c')) w') : wpList Tryd.prog ops Q (o1 :: o2 :: rest) a w :=
  wpList_push (E := pI .i64) 48 3 (.int .i64 0) 8 tmp s xo hg1 hg2 hd1 ho1 ho2 Tryd.underlying48 (by kernel_rfl) rfl (by decide) hs ht2 hown (.int .i64 n) hu n (fun _ => False) ⟨rfl, hf⟩ (fun _ hk => hk.elim) hlen ⟨by decide, by decide⟩ hbase h
end

theorem info_int : (Tryd.prog.info? 3).map (fun i => (i.zero, i.size, i.bytes)) = some (some (.int .i64 0), 1, 8) := by kernel_rfl
set_option maxRecDepth 100000 in
set_option maxHeartbeats 1000000 in
theorem refOpen_calls (A : Option Addr) (c : Nat) (ms : List Mod) (w : World) (h : SlAt pMod (Old w) w A c ms) (hbd : ms.length ≤ 1000000) :
    Calls Tryd.prog 51 #[.slice A ms.length c] w (OpenPost ms w) := by
  have hmx := h.lenle
  have H := Lib.hid h; clear h
  go_enter Tryd.func51, Tryd.ntmps51
  go_wp2
  go_loopw [6, 5, 4] (fun i n out wr => ∃ k op : Nat, k ≤ ms.length ∧ op ≤ k ∧ i = .int .i64 k ∧ n = .int .i64 op ∧ Hid (Below w.heap.size w wr) ∧ w.heap.size ≤ wr.heap.size ∧ ∃ done : List Int, Hid (done.length = k) ∧
    Hid (Own (pI .i64) 3 w.heap.size (w.heap.size ≤ ·) wr out done) ∧ Hid (openL 0 ms = (openL op (ms.drop k)).map (done ++ ·))) (fun i _ _ _ => ms.length - (intOf i).toNat)
  case atStart => exact ⟨0, 0, Nat.zero_le _, Nat.le_refl _, rfl, rfl, Below.refl _ _, Nat.le_refl _, [], rfl, Own.nil, by unfold Hid; simp⟩
  case round =>
    obtain ⟨k, op, hk, hop, rfl, rfl, hb, hsz, done, hdl, hown, hgo⟩ := hrel
    obtain ⟨wo, rfl⟩ : ∃ wo : World, wo = wr := ⟨_, rfl⟩
    obtain ⟨out, rfl⟩ : ∃ out, out = u4 := ⟨_, rfl⟩
    by_cases hlt : k < ms.length
    · obtain ⟨b, o, A', c', m, hd, rfl, hob, hc0, hc1, hf8, hargs, hl⟩ := (H.out.below hb.out).getMod hlt
      have hpush : ∀ (v : Nat) (w2 : World) (A2 : Option Addr) (c2 : Nat), Own (pI .i64) 3 w.heap.size (w.heap.size ≤ ·) w2 (.slice A2 (done.length + 1) c2) (done ++ [(v : Int)]) → Below w.heap.size wo w2 → Hid (openL 0 ms = ((openL v (ms.drop (k + 1))).map ((v : Int) :: ·)).map (done ++ ·)) →
          Hid (Below w.heap.size w w2) ∧ w.heap.size ≤ w2.heap.size ∧ Hid ((done ++ [(v : Int)]).length = k + 1) ∧ Hid (Own (pI .i64) 3 w.heap.size (w.heap.size ≤ ·) w2 (.slice A2 (done.length + 1) c2) (done ++ [(v : Int)])) ∧ Hid (openL 0 ms = (openL v (ms.drop (k + 1))).map ((done ++ [(v : Int)]) ++ ·)) := by
        intro v w2 A2 c2 h1 h2 h3
        refine ⟨hb.out.trans h2, (hb.out.trans h2).size, by unfold Hid; simp [hdl.out], h1, ?_⟩
        unfold Hid; rw [h3.out, Option.map_map]; congr 1; funext l; simp
      have Hpush := Lib.hid hpush; clear hpush
      have hd12 : done.length ≤ 1000000 := by rw [hdl.out]; omega
      by_cases h91 : m.name = 91
      · have e0 : (m.name == 91) = true := by simp [h91]
        have e1 : (m.name == 93) = false := by simp [h91]
        have hg2 : Hid (openL 0 ms = ((openL (op + 1) (ms.drop (k + 1))).map (((op + 1 : Nat) : Int) :: ·)).map (done ++ ·)) := by
          unfold Hid; rw [hgo.out, hd.out, openL_open h91]
        clear h91
        have hfit : Hid (Fits .i64 ((op : Int) + 1)) := fits_i64 (by omega)
        have e2 : decide ((op : Int) + 1 < 0) = false := by simp; omega
        go_wp2_with ((with_reducible show wpList _ _ _ (Oper.mk (some 33) _ _ _ _ _ :: _) _ _); refine pushI 33 (.tmp 31) (.tmp 32) rfl rfl rfl rfl rfl (fun _ => rfl) (fun _ => rfl) hown.out ((op : Int) + 1) rfl hfit.out (room_of hd12) hsz ?_; intro A2 c2 w2 Hown2 hb2 hk2)
        obtain ⟨p1, p2, p3, p4, p5⟩ := Hpush.out (op + 1) w2 A2 c2 Hown2.out hb2 hg2
        go_roundw
        case rel => exact ⟨k + 1, op + 1, by omega, by omega, by go_num, by go_num, p1, p2, _, p3, p4, p5⟩
        case measure => simp [intOf]; omega
      · have e0 : (m.name == 91) = false := by simp [h91]
        by_cases h93 : m.name = 93
        · have e1 : (m.name == 93) = true := by simp [h93]
          by_cases h0 : op = 0
          · have hno : openL 0 ms = none := by rw [hgo.out, hd.out, openL_no h93 h0]; rfl
            have Hno := Lib.hid hno
            subst h0
            clear h91 h93 hno
            go_wp2
            go_ret2
            exact ⟨hb.out, .inl ⟨Hno.out, rfl⟩⟩
          · have hg2 : Hid (openL 0 ms = ((openL (op - 1) (ms.drop (k + 1))).map (((op - 1 : Nat) : Int) :: ·)).map (done ++ ·)) := by
              unfold Hid; rw [hgo.out, hd.out, openL_close h93 h0]
            have hop1 : (1 : Int) ≤ (op : Int) := by omega
            have hfit : Hid (Fits .i64 ((op : Int) - 1)) := fits_i64 (by omega)
            clear h91 h93 h0
            go_wp2_with ((with_reducible show wpList _ _ _ (Oper.mk (some 33) _ _ _ _ _ :: _) _ _); refine pushI 33 (.tmp 31) (.tmp 32) rfl rfl rfl rfl rfl (fun _ => rfl) (fun _ => rfl) hown.out ((op : Int) - 1) rfl hfit.out (room_of hd12) hsz ?_; intro A2 c2 w2 Hown2 hb2 hk2)
            rw [show ((op : Int) - 1) = ((op - 1 : Nat) : Int) from by omega] at Hown2
            obtain ⟨p1, p2, p3, p4, p5⟩ := Hpush.out (op - 1) w2 A2 c2 Hown2.out hb2 hg2
            go_roundw
            case rel => exact ⟨k + 1, op - 1, by omega, by omega, by go_num, by congr 1; omega, p1, p2, _, p3, p4, p5⟩
            case measure => simp [intOf]; omega
        · have e1 : (m.name == 93) = false := by simp [h93]
          have hg2 : Hid (openL 0 ms = ((openL op (ms.drop (k + 1))).map ((op : Int) :: ·)).map (done ++ ·)) := by
            unfold Hid; rw [hgo.out, hd.out, openL_else h91 h93]
          have hfit : Hid (Fits .i64 (op : Int)) := fits_i64 (by omega)
          clear h91 h93
          go_wp2_with ((with_reducible show wpList _ _ _ (Oper.mk (some 33) _ _ _ _ _ :: _) _ _); refine pushI 33 (.tmp 31) (.tmp 32) rfl rfl rfl rfl rfl (fun _ => rfl) (fun _ => rfl) hown.out (op : Int) rfl hfit.out (room_of hd12) hsz ?_; intro A2 c2 w2 Hown2 hb2 hk2)
          obtain ⟨p1, p2, p3, p4, p5⟩ := Hpush.out op w2 A2 c2 Hown2.out hb2 hg2
          go_roundw
          case rel => exact ⟨k + 1, op, by omega, by omega, by go_num, rfl, p1, p2, _, p3, p4, p5⟩
          case measure => simp [intOf]; omega
    · have hs : openL 0 ms = some done := by rw [hgo.out, drop_end hlt]; simp [openL]
      have Hs := Lib.hid hs; clear hs
      obtain ⟨A2, c2, hv2, hs2⟩ := hown.out.fresh
      subst hv2
      have Hs2 := Lib.hid hs2; clear hs2
      go_wp2
      go_ret2
      exact ⟨hb.out, .inr ⟨done, A2, c2, Hs.out, openL_length Hs.out, rfl, Hs2.out⟩⟩

end Go.Proofs.YtckffdaomjbglaaDoor

/-! Wd -/
namespace Go.Proofs.YtckffdaomjbglaaDoor
open Go.RowKit

theorem checkF_open {ms : List Mod} (h1 : ¬ 2000 < ms.length) (h2 : ms.all fineF = true) : checkF ms = match openL 0 ms with
    | none => 28
    | some l => if 0 < l.getLast?.getD 0 then 28 else 0 := by
  unfold checkF
  rw [if_neg h1, if_neg (by rw [h2]; decide)]
  have := scan_openL ms 0
  cases hs : scan 0 ms with
  | none =>
    rw [hs] at this
    cases ho : openL 0 ms with
    | none => rfl
    | some l => rw [ho] at this; cases this
  | some n =>
    rw [hs] at this
    cases ho : openL 0 ms with
    | none => rw [ho] at this; cases this
    | some l =>
      rw [ho] at this
      simp only [Option.map_some, Option.some.injEq] at this
      have h3 : l.getLast?.getD 0 = (n : Int) := this.symm
      simp only [h3]
      by_cases h0 : 0 < n
      · rw [if_pos h0, if_pos (by omega)]
      · rw [if_neg h0, if_neg (by omega)]

set_option maxRecDepth 100000 in
set_option maxHeartbeats 1000000 in
theorem refCheck_calls (A : Option Addr) (c : Nat) (ms : List Mod) (w : World) (h : SlAt pMod (Old w) w A c ms) :
    Calls Tryd.prog 34 #[.slice A ms.length c] w (CheckPost ms w) := by
  have hmx := h.lenle
  have H := Lib.hid h; clear h
  by_cases hbig : 2000 < ms.length
  · go_enter Tryd.func34, Tryd.ntmps34
    go_wp2
    go_ret
    exact ⟨ret_int (by unfold checkF; rw [if_pos hbig]), Below.refl _ _⟩
  · have Hbig := Lib.hid hbig; clear hbig
    have hle : ms.length ≤ 2000 := by have := Hbig.out; omega
    go_enter Tryd.func34, Tryd.ntmps34
    go_wp2
    go_loopw [3] (fun i wr => ∃ k : Nat, k ≤ ms.length ∧ i = .int .i64 k ∧ Hid (Below w.heap.size w wr) ∧ w.heap.size ≤ wr.heap.size ∧ Hid (ms.all fineF = (ms.drop k).all fineF)) (fun i _ => ms.length - (intOf i).toNat)
    case atStart => exact ⟨0, Nat.zero_le _, rfl, Below.refl _ _, Nat.le_refl _, rfl⟩
    case round =>
      obtain ⟨k, hk, rfl, hb, hsz, hall⟩ := hrel
      obtain ⟨wo, rfl⟩ : ∃ wo : World, wo = wr := ⟨_, rfl⟩
      by_cases hlt : k < ms.length
      · obtain ⟨b, o, A', c', m, hd, rfl, hob, hc0, hc1, hf8, hargs, hl⟩ := (H.out.below hb.out).getMod hlt
        have hob' : b < wo.heap.size := Nat.lt_of_lt_of_le hob hsz
        have hcall : Calls Tryd.prog 50 #[.agg #[.int .u8 m.name, .slice A' m.args.length c']] wo (FinePost m wo) :=
          refFine_calls A' c' m wo hargs.out (fun q hq => Nat.lt_of_lt_of_le hq hsz)
        have Hcall := Lib.hid hcall; clear hcall
        go_wp2_with fail
        refine Hcall.out.mono ?_
        rintro e w1 ⟨rfl, hb1⟩
        have hbw : Below w.heap.size w w1 := hb.out.trans (hb1.mono hsz)
        have Hbw := Lib.hid hbw; clear hbw hb1
        cases hfm : fineF m
        · go_wp2
          go_ret
          refine ⟨ret_int ?_, Hbw.out⟩
          unfold checkF
          rw [if_neg Hbig.out, if_pos]
          rw [hall.out, hd.out, List.all_cons, hfm]; rfl
        · go_wp2
          go_roundw
          case rel =>
            refine ⟨k + 1, by omega, by go_num, Hbw, Hbw.out.size, ?_⟩
            unfold Hid; rw [hall.out, hd.out, List.all_cons, hfm]; rfl
          case measure => simp [intOf]; omega
      · have hok : ms.all fineF = true := by rw [hall.out, drop_end hlt]; rfl
        have Hck := Lib.hid (checkF_open Hbig.out hok)
        clear hok
        have hop := refOpen_calls A c ms wo (((H.out.below hb.out)).wide fun q hq => Nat.lt_of_lt_of_le hq hsz) (by omega)
        have Hop := Lib.hid hop; clear hop
        go_wp2_with fail
        refine Hop.out.mono ?_
        rintro e w1 ⟨hb1, ⟨hn, rfl⟩ | ⟨l, A1, c1, hsome, hll, rfl, hsl⟩⟩
        · have hbw : Below w.heap.size w w1 := hb.out.trans (hb1.mono hsz)
          have Hbw := Lib.hid hbw; clear hbw hb1
          have Hn := Lib.hid hn; clear hn
          go_wp2
          go_ret
          exact ⟨ret_int (by rw [Hck.out, Hn.out]), Hbw.out⟩
        · have hbw : Below w.heap.size w w1 := hb.out.trans (hb1.mono hsz)
          have Hbw := Lib.hid hbw; clear hbw hb1
          have Hn := Lib.hid hsome; clear hsome
          have Hll := Lib.hid hll; clear hll
          have Hsl := Lib.hid hsl; clear hsl
          have hlx : l.length ≤ 2000 := by rw [Hll.out]; exact hle
          by_cases hl0 : l = []
          · subst hl0
            go_wp2
            go_ret
            exact ⟨ret_int (by rw [Hck.out, Hn.out]; rfl), Hbw.out⟩
          · have hpos : 0 < l.length := List.length_pos_iff.2 hl0
            obtain ⟨b, o, x, hd, rfl, _, hcx, _⟩ := Hsl.out.getI (i := l.length - 1) (by omega)
            have hlast : l.getLast?.getD 0 = x := by
              rw [List.getLast?_eq_getElem?, get_of_drop hd.out]; rfl
            have Hlast := Lib.hid hlast; clear hlast
            have hposI : decide ((0 : Int) < (l.length : Int)) = true := by simpa using hpos
            have hidx : ((l.length : Int) - 1).toNat = l.length - 1 := by omega
            clear hl0
            by_cases hx : 0 < x
            · go_wp2
              go_ret
              exact ⟨ret_int (by rw [Hck.out, Hn.out]; simp only [Hlast.out]; rw [if_pos hx]), Hbw.out⟩
            · go_wp2
              go_ret
              exact ⟨ret_int (by rw [Hck.out, Hn.out]; simp only [Hlast.out]; rw [if_neg (by omega)]), Hbw.out⟩

def greatF (ms : List Mod) : Bool := decide (2100 < ms.length) || ms.any (fun m => decide (10 < m.args.length))
set_option maxRecDepth 100000 in
set_option maxHeartbeats 1000000 in
theorem great_calls {F : Nat → Prop} (A : Option Addr) (c : Nat) (ms : List Mod) (w : World) (h : SlAt pMod F w A c ms) :
    Calls Tryd.prog 20 #[.slice A ms.length c] w fun e w' => e = .returned (.bool (greatF ms)) ∧ w = w' := by
  have hmx := h.lenle
  have H := Lib.hid h; clear h
  by_cases hbig : 2100 < ms.length
  · go_enter Tryd.func20, Tryd.ntmps20
    go_wp2
    go_ret
    exact ⟨ret_bool (by unfold greatF; simp [hbig]), rfl⟩
  · have Hbig := Lib.hid (show decide (2100 < ms.length) = false by simpa using hbig)
    go_enter Tryd.func20, Tryd.ntmps20
    go_wp2
    go_loop [3] (fun i => ∃ k : Nat, k ≤ ms.length ∧ i = .int .i64 k ∧ Hid (ms.any (fun m => decide (10 < m.args.length)) = (ms.drop k).any (fun m => decide (10 < m.args.length)))) (fun i => ms.length - (intOf i).toNat)
    case atStart => exact ⟨0, Nat.zero_le _, rfl, rfl⟩
    case round =>
      obtain ⟨k, hk, rfl, hall⟩ := hrel
      by_cases hlt : k < ms.length
      · obtain ⟨b, o, A', c', m, hd, rfl, hob, hc0, hc1, hf8, hargs, hl⟩ := H.out.getMod hlt
        by_cases h10 : 10 < m.args.length
        · go_wp2
          go_ret
          refine ⟨ret_bool ?_, rfl⟩
          unfold greatF; rw [Hbig.out, hall.out, hd.out, List.any_cons]; simp [h10]
        · go_wp2
          go_round
          case rel =>
            refine ⟨k + 1, by omega, by go_num, ?_⟩
            unfold Hid; rw [hall.out, hd.out, List.any_cons]; simp [h10]
          case measure => simp [intOf]; omega
      · go_wp2
        go_ret
        refine ⟨ret_bool ?_, rfl⟩
        unfold greatF; rw [Hbig.out, hall.out, drop_end hlt]; rfl

end Go.Proofs.YtckffdaomjbglaaDoor

/-! Fd -/
namespace Go.Proofs.YtckffdaomjbglaaDoor
open Go.RowKit Go.Sort

theorem coreR_cases (r : Rul) : (coreR r = false ∧ ((letterB r.name = false) ∨ (letterB r.name = true ∧ (r.name == 91) = true) ∨ (letterB r.name = true ∧ (r.name == 91) = false ∧ (r.name == 93) = true) ∨
      (letterB r.name = true ∧ (r.name == 91) = false ∧ (r.name == 93) = false ∧ r.arity < 0) ∨ (letterB r.name = true ∧ (r.name == 91) = false ∧ (r.name == 93) = false ∧ ¬ r.arity < 0 ∧ 4 < r.arity))) ∨
    (letterB r.name = true ∧ (r.name == 91) = false ∧ (r.name == 93) = false ∧ ¬ r.arity < 0 ∧ ¬ 4 < r.arity ∧
      coreR r = (r.guards.all (fun f => formF f r.arity.toNat) && (r.out.all (fun s => s.args.all (fun f => formF f r.arity.toNat)) && checkF (r.out.map fun s => ⟨s.name, List.replicate s.args.length 0⟩) == 0))) := by
  cases hl : letterB r.name
  · left; exact ⟨by unfold coreR; simp [hl], .inl rfl⟩
  by_cases h3 : r.name = 91
  · left; exact ⟨by unfold coreR; simp [h3], .inr (.inl ⟨rfl, by simp [h3]⟩)⟩
  by_cases h4 : r.name = 93
  · left; exact ⟨by unfold coreR; simp [h4], .inr (.inr (.inl ⟨rfl, by simp [h3], by simp [h4]⟩))⟩
  by_cases h1 : r.arity < 0
  · left; exact ⟨by unfold coreR; simp; omega, .inr (.inr (.inr (.inl ⟨rfl, by simp [h3], by simp [h4], h1⟩)))⟩
  by_cases h2 : 4 < r.arity
  · left; exact ⟨by unfold coreR; simp; omega, .inr (.inr (.inr (.inr ⟨rfl, by simp [h3], by simp [h4], h1, h2⟩)))⟩
  right
  refine ⟨rfl, by simp [h3], by simp [h4], h1, h2, ?_⟩
  unfold coreR
  simp only [hl, show (r.name != 91) = true by simp [h3], show (r.name != 93) = true by simp [h4], show decide (0 ≤ r.arity) = true by simp; omega, show decide (r.arity ≤ 4) = true by simp; omega, Bool.true_and, Bool.and_true, Bool.and_assoc]
theorem checkF_bad {ms : List Mod} {m : Mod} (hm : m ∈ ms) (hf : fineF m = false) (hl : ms.length ≤ 2000) : checkF ms = 8 := by
  unfold checkF
  rw [if_neg (by omega), if_pos]
  rw [List.all_eq_false]
  exact ⟨m, hm, by simp [hf]⟩

/-- what 'm := Module(name, make(..))' leaves: the box of the shape, the zeros and the box of the module, in either order -/
structure MadeM (wp W : World) (nm : Int) (n : Nat) (sh : Array Value) (gz gm : Nat) : Prop where
  bel : Below wp.heap.size wp W
  sz : wp.heap.size + 3 ≤ W.heap.size
  bs : Blk W wp.heap.size 45 sh
  bm : Blk W gm 50 #[.int .u8 nm, .slice (some ⟨gz, 0, none⟩) n n]
  zs : SlAt (pI .i64) (fun q => q = gz) W (some ⟨gz, 0, none⟩) n (List.replicate n 0)
  gt : wp.heap.size < gz ∧ gz < W.heap.size ∧ wp.heap.size < gm ∧ gm < W.heap.size
theorem madeM1 (wp : World) (nm : Int) (n : Nat) (hn : n ≤ 1000) (sh Z : Array Value) (hZ : madeCells #[Value.int .i64 0] n = Z) :
    MadeM wp (((wp.alloc (.cells sh 45)).alloc (.cells Z 3)).alloc (.cells #[.int .u8 nm, .slice (some ⟨wp.heap.size + 1, 0, none⟩) n n] 50)).drew nm n sh (wp.heap.size + 1) (wp.heap.size + 1 + 1) := by
  subst hZ
  have h1 := Blk.new (wp.alloc (.cells sh 45)) 3 (madeCells #[Value.int .i64 0] n)
  have h2 := Blk.new ((wp.alloc (.cells sh 45)).alloc (.cells (madeCells #[Value.int .i64 0] n) 3)) 50 #[.int .u8 nm, .slice (some ⟨wp.heap.size + 1, 0, none⟩) n n]
  rw [show (wp.alloc (.cells sh 45)).heap.size = wp.heap.size + 1 from by simp] at h1
  rw [show ((wp.alloc (.cells sh 45)).alloc (.cells (madeCells #[Value.int .i64 0] n) 3)).heap.size = wp.heap.size + 1 + 1 from by simp] at h2
  exact ⟨below_drew ((((Below.refl _ _).alloc (Nat.le_refl _) _).alloc (by simp) _).alloc (by simp; omega) _), by simp, ((Blk.new _ _ _).alloc _).alloc _, h2, (zeros_sl (F := fun q => q = wp.heap.size + 1) (h1.alloc _) rfl (by unfold maxLen; omega)).keep fun _ _ => rfl, by simp; omega⟩
theorem madeM2 (wp : World) (nm : Int) (n : Nat) (hn : n ≤ 1000) (sh Z : Array Value) (hZ : madeCells #[Value.int .i64 0] n = Z) :
    MadeM wp (((wp.alloc (.cells sh 45)).alloc (.cells #[.int .u8 nm, .slice (some ⟨wp.heap.size + 1 + 1, 0, none⟩) n n] 50)).alloc (.cells Z 3)).drew nm n sh (wp.heap.size + 1 + 1) (wp.heap.size + 1) := by
  subst hZ
  have h1 := Blk.new (wp.alloc (.cells sh 45)) 50 #[.int .u8 nm, .slice (some ⟨wp.heap.size + 1 + 1, 0, none⟩) n n]
  have h2 := Blk.new ((wp.alloc (.cells sh 45)).alloc (.cells #[.int .u8 nm, .slice (some ⟨wp.heap.size + 1 + 1, 0, none⟩) n n] 50)) 3 (madeCells #[Value.int .i64 0] n)
  rw [show (wp.alloc (.cells sh 45)).heap.size = wp.heap.size + 1 from by simp] at h1
  rw [show ((wp.alloc (.cells sh 45)).alloc (.cells #[.int .u8 nm, .slice (some ⟨wp.heap.size + 1 + 1, 0, none⟩) n n] 50)).heap.size = wp.heap.size + 1 + 1 from by simp] at h2
  exact ⟨below_drew ((((Below.refl _ _).alloc (Nat.le_refl _) _).alloc (by simp) _).alloc (by simp; omega) _), by simp, ((Blk.new _ _ _).alloc _).alloc _, h1.alloc _, (zeros_sl (F := fun q => q = wp.heap.size + 1 + 1) h2 rfl (by unfold maxLen; omega)).keep fun _ _ => rfl, by simp; omega⟩

end Go.Proofs.YtckffdaomjbglaaDoor

/-! Ib -/
namespace Go.Proofs.YtckffdaomjbglaaDoor
open Go.RowKit Go.Sort

def plainC (c : Int) : Bool := letterB c && (c != 91) && (c != 93)
theorem plain_check (c : Int) : (checkF [⟨c, []⟩] == 0) = plainC c := by
  rw [Bool.eq_iff_iff, beq_iff_eq, check_one]
  unfold plainC
  simp [and_assoc]
set_option maxRecDepth 100000 in
theorem letter_calls' (c : Int) (w : World) (hc : Fits .u8 c) : Calls Tryd.prog 33 #[.int .u8 c] w (BoolPost (plainC c) w) := by
  have hp := plain_check c
  have Hp := Lib.hid hp; clear hp
  go_enter Tryd.func33, Tryd.ntmps33
  go_wp2_with fail
  ((with_reducible refine (oneCheck _ _ hc _ rfl).mono ?_))
  rintro e w1 ⟨rfl, hb1⟩
  have hbw : Below w.heap.size w w1 := ((Below.refl _ _).alloc (Nat.le_refl _) _).trans (hb1.mono (by simp))
  have Hbw := Lib.hid hbw; clear hbw
  clear hb1
  go_wp2
  go_ret
  exact ⟨ret_bool Hp.out, Hbw.out⟩
/-- a word without arguments? -/
def bareM (ms : List Mod) : Bool := ms.all fun m => decide (¬ 0 < m.args.length)
def plainF (ms : List Mod) : Int := if checkF ms = 0 then (if bareM ms = true then 0 else 8) else checkF ms
set_option maxRecDepth 100000 in
set_option maxHeartbeats 1000000 in
theorem plainW_calls (A : Option Addr) (c : Nat) (ms : List Mod) (w : World) (h : SlAt pMod (Old w) w A c ms) : Calls Tryd.prog 22 #[.slice A ms.length c] w (IntPost (plainF ms) w) := by
  have hmx := h.lenle
  have hck := wordCheck_calls A c ms w h
  have H := Lib.hid h; clear h
  have Hck := Lib.hid hck; clear hck
  go_enter Tryd.func22, Tryd.ntmps22
  go_wp2_with fail
  refine Hck.out.mono ?_
  rintro e w1 ⟨rfl, hb1⟩
  have hz1 := hb1.size
  by_cases hf : checkF ms = 0
  case neg =>
    have e0 : (checkF ms != 0) = true := by simp [hf]
    have hff : plainF ms = checkF ms := by unfold plainF; rw [if_neg hf]
    have Hb1 := Lib.hid hb1; clear hb1
    have Hff := Lib.hid hff; clear hff
    have Hf := Lib.hid hf; clear hf
    go_wp2
    go_ret
    exact ⟨ret_int Hff.out.symm, Hb1.out⟩
  case pos =>
  have e0 : (checkF ms != 0) = false := by simp [hf]
  have hff : plainF ms = if bareM ms = true then 0 else 8 := by unfold plainF; rw [if_pos hf]
  have Hb1 := Lib.hid hb1; clear hb1
  have Hff := Lib.hid hff; clear hff
  have Hf := Lib.hid hf; clear hf
  go_wp2
  go_loopw [13] (fun i wr => ∃ k : Nat, k ≤ ms.length ∧ i = .int .i64 k ∧ Hid (Below w.heap.size w wr) ∧ w.heap.size ≤ wr.heap.size ∧ Hid (bareM ms = (ms.drop k).all fun m => decide (¬ 0 < m.args.length))) (fun i _ => ms.length - (intOf i).toNat)
  case atStart => exact ⟨0, Nat.zero_le _, rfl, Hb1, hz1, rfl⟩
  case round =>
    obtain ⟨k, hk, rfl, hb, hsz, hall⟩ := hrel
    obtain ⟨wo, rfl⟩ : ∃ wo : World, wo = wr := ⟨_, rfl⟩
    by_cases hlt : k < ms.length
    case neg =>
      have hy : plainF ms = 0 := by rw [Hff.out, hall.out, drop_end hlt]; rfl
      have Hy := Lib.hid hy; clear hy
      go_wp2
      go_ret
      exact ⟨ret_int Hy.out.symm, hb.out⟩
    case pos =>
      obtain ⟨b, o, D, d, m, hd, rfl, hob, q0, q1, hx8, hxa, hxl⟩ := (H.out.below hb.out).getMod hlt
      have hob' : b < wo.heap.size := by have : b < w.heap.size := hob; omega
      have hb2 : Below w.heap.size w (wo.alloc (.cells #[.int .u8 m.name, .slice D m.args.length d] 50)) := hb.out.alloc hsz _
      have Hb2 := Lib.hid hb2; clear hb2
      by_cases h0 : 0 < m.args.length
      · have hy : plainF ms = 8 := by rw [Hff.out, hall.out, hd.out, List.all_cons, decide_eq_false (by omega)]; rfl
        have Hy := Lib.hid hy; clear hy
        go_wp2
        go_ret
        exact ⟨ret_int Hy.out.symm, Hb2.out⟩
      · go_wp2
        go_roundw
        case rel => exact ⟨k + 1, hlt, by go_num, Hb2, by simp; omega, by unfold Hid; rw [hall.out, hd.out, List.all_cons, decide_eq_true (by omega)]; rfl⟩
        case measure => simp [intOf]; omega
set_option maxRecDepth 100000 in
set_option maxHeartbeats 1000000 in
theorem refPlainW_calls (A : Option Addr) (c : Nat) (ms : List Mod) (w : World) (h : SlAt pMod (Old w) w A c ms) : Calls Tryd.prog 21 #[.slice A ms.length c] w (IntPost (plainF ms) w) := by
  have hmx := h.lenle
  have hck := refCheck_calls A c ms w h
  have H := Lib.hid h; clear h
  have Hck := Lib.hid hck; clear hck
  go_enter Tryd.func21, Tryd.ntmps21
  go_wp2_with fail
  refine Hck.out.mono ?_
  rintro e w1 ⟨rfl, hb1⟩
  have hz1 := hb1.size
  by_cases hf : checkF ms = 0
  case neg =>
    have e0 : (checkF ms != 0) = true := by simp [hf]
    have hff : plainF ms = checkF ms := by unfold plainF; rw [if_neg hf]
    have hck1 := refCheck_calls A c ms w1 (H.out.later hb1)
    have Hb1 := Lib.hid hb1; clear hb1
    have Hff := Lib.hid hff; clear hff
    have Hf := Lib.hid hf; clear hf
    have Hck1 := Lib.hid hck1; clear hck1
    go_wp2_with fail
    refine Hck1.out.mono ?_
    rintro e w2 ⟨rfl, hb2⟩
    have hbw2 := Hb1.out.trans (hb2.mono hz1)
    have Hbw2 := Lib.hid hbw2; clear hbw2
    clear hb2
    go_wp2
    go_ret
    exact ⟨ret_int Hff.out.symm, Hbw2.out⟩
  case pos =>
  have e0 : (checkF ms != 0) = false := by simp [hf]
  have hff : plainF ms = if bareM ms = true then 0 else 8 := by unfold plainF; rw [if_pos hf]
  have hw1 := H.out.below hb1
  have Hb1 := Lib.hid hb1; clear hb1
  have Hff := Lib.hid hff; clear hff
  have Hf := Lib.hid hf; clear hf
  have Hw1 := Lib.hid hw1; clear hw1
  go_wp2
  go_loop [3] (fun i => ∃ k : Nat, k ≤ ms.length ∧ i = .int .i64 k ∧ Hid (bareM ms = (ms.drop k).all fun m => decide (¬ 0 < m.args.length))) (fun i => ms.length - (intOf i).toNat)
  case atStart => exact ⟨0, Nat.zero_le _, rfl, rfl⟩
  case round =>
    obtain ⟨k, hk, rfl, hall⟩ := hrel
    by_cases hlt : k < ms.length
    case neg =>
      have hy : plainF ms = 0 := by rw [Hff.out, hall.out, drop_end hlt]; rfl
      have Hy := Lib.hid hy; clear hy
      go_wp2
      go_ret
      exact ⟨ret_int Hy.out.symm, Hb1.out⟩
    case pos =>
      obtain ⟨b, o, D, d, m, hd, rfl, hob, q0, q1, hx8, hxa, hxl⟩ := Hw1.out.getMod hlt
      have hk0 : (0 : Int) ≤ (k : Int) := Int.natCast_nonneg _
      have hk1 : (k : Int) < (ms.length : Int) := by omega
      by_cases h0 : 0 < m.args.length
      · have hy : plainF ms = 8 := by rw [Hff.out, hall.out, hd.out, List.all_cons, decide_eq_false (by omega)]; rfl
        have Hy := Lib.hid hy; clear hy
        go_wp2
        go_ret
        exact ⟨ret_int Hy.out.symm, Hb1.out⟩
      · go_wp2
        go_round
        case rel => exact ⟨k + 1, hlt, by go_num, by unfold Hid; rw [hall.out, hd.out, List.all_cons, decide_eq_true (by omega)]; rfl⟩
        case measure => simp [intOf]; omega

/-! ### names, modules -/
def NamesPost (l : List Int) (w : World) (e : Ending) (w' : World) : Prop :=
  ∃ A c, e = .returned (.slice A l.length c) ∧ Own (pI .u8) 5 w.heap.size (w.heap.size ≤ ·) w' (.slice A l.length c) l ∧ Below w.heap.size w w'
set_option maxRecDepth 100000 in
set_option maxHeartbeats 1000000 in
theorem names_calls (A : Option Addr) (c : Nat) (ms : List Mod) (w : World) (h : SlAt pMod (Old w) w A c ms) (hl : ms.length ≤ 100000) : Calls Tryd.prog 23 #[.slice A ms.length c] w (NamesPost (ms.map Mod.name) w) := by
  have hmx := h.lenle
  have H := Lib.hid h; clear h
  go_enter Tryd.func23, Tryd.ntmps23
  go_wp2
  go_loopw [8, 3] (fun i out wr => ∃ (k : Nat) (Ao : Option Addr) (co : Nat), k ≤ ms.length ∧ i = .int .i64 k ∧ out = .slice Ao k co ∧ Hid (Below w.heap.size w wr) ∧ w.heap.size ≤ wr.heap.size ∧ Hid (Own (pI .u8) 5 w.heap.size (w.heap.size ≤ ·) wr (.slice Ao k co) ((ms.take k).map Mod.name))) (fun i _ _ => ms.length - (intOf i).toNat)
  case atStart => exact ⟨0, none, 0, Nat.zero_le _, rfl, rfl, Below.refl _ _, Nat.le_refl _, Own.nil⟩
  case round =>
    obtain ⟨k, Ao, co, hk, rfl, rfl, hb, hsz, hown⟩ := hrel
    obtain ⟨wo, rfl⟩ : ∃ wo : World, wo = wr := ⟨_, rfl⟩
    by_cases hlt : k < ms.length
    case neg =>
      obtain rfl : k = ms.length := by omega
      have hown' := hown.out
      rw [List.take_length] at hown'
      have hml : (ms.map Mod.name).length = ms.length := List.length_map ..
      have Hown' := Lib.hid hown'; clear hown'
      have Hml := Lib.hid hml; clear hml
      go_wp2
      go_ret
      exact ⟨Ao, co, by rw [Hml.out]; rfl, by rw [Hml.out]; exact Hown'.out, hb.out⟩
    case pos =>
      obtain ⟨b, o, D, d, m, hd, hB, hob, q0, q1, hx8, hxa, hxl⟩ := (H.out.below hb.out).getMod hlt
      subst hB
      have hob' : b < wo.heap.size := by have : b < w.heap.size := hob; omega
      obtain ⟨W1, hW1⟩ : ∃ W1, W1 = wo.alloc (.cells #[.int .u8 m.name, .slice D m.args.length d] 50) := ⟨_, rfl⟩
      have hb1 : Below wo.heap.size wo W1 := by rw [hW1]; exact (Below.refl _ _).alloc (Nat.le_refl _) _
      have hz1 : wo.heap.size + 1 ≤ W1.heap.size := by rw [hW1]; simp
      have hbm : Blk W1 wo.heap.size 50 #[.int .u8 m.name, .slice D m.args.length d] := by rw [hW1]; exact Blk.new _ _ _
      have hown1 := hown.out.later hb1
      have hln : ((ms.take k).map Mod.name).length + 1 = k + 1 := by rw [List.length_map, List.length_take]; omega
      have hrm : Room ((ms.take k).map Mod.name).length := room_of (by rw [List.length_map, List.length_take]; omega)
      have hba : w.heap.size ≤ W1.heap.size := by omega
      have hR : (pI .u8).R (fun _ => False) W1 (Value.int .u8 m.name).cells.toList m.name := ⟨rfl, hx8⟩
      have m0 := hbm.cell 0
      have hbw1 := hb.out.trans (hb1.mono hsz)
      have Hb1 := Lib.hid hb1; clear hb1
      have Hbm := Lib.hid hbm; clear hbm
      have Hown1 := Lib.hid hown1; clear hown1
      have Hln := Lib.hid hln; clear hln
      have Hrm := Lib.hid hrm; clear hrm
      have HR := Lib.hid hR; clear hR
      have Hd := Lib.hid hd; clear hd
      have Hbw1 := Lib.hid hbw1; clear hbw1
      go_upto_region 5 with fail
      rw [← hW1]
      have HW1 := Lib.hid hW1; clear hW1
      clear q0 q1
      go_wp2_with ((with_reducible show wpList _ _ _ (Oper.mk (some 15) _ _ _ _ _ :: _) _ _); refine wpList_pushG (E := pI .u8) (xs := (ms.take k).map Mod.name) (v := .slice Ao k co) (base := w.heap.size) (G := (w.heap.size ≤ ·)) 55 5 (.int .u8 0) 1 15 (.tmp 12) (.tmp 14) rfl rfl rfl rfl rfl Tryd.underlying55 (by kernel_rfl) rfl (by decide) (fun _ => rfl) (fun _ => rfl) Hown1.out (.int .u8 m.name) rfl m.name (fun _ => False) HR.out (fun _ h => h.elim) (k + 1) Hln.out Hrm.out ⟨by decide, by decide⟩ hba ?_; intro A6 c6 w6 hown6 hg6)
      go_roundw
      case rel =>
        have hz6 := hg6.out.bel.size
        refine ⟨k + 1, A6, c6, hlt, by go_num, rfl, Hbw1.out.trans hg6.out.bel, by omega, ?_⟩
        unfold Hid; rw [take_of_drop Hd.out, List.map_append]; exact hown6.out
      case measure => simp [intOf]; omega
end Go.Proofs.YtckffdaomjbglaaDoor

/-! Id -/
namespace Go.Proofs.YtckffdaomjbglaaDoor
open Go.RowKit Go.Sort

theorem cntR_short {a b : Int} {l : List Int} (h : l.length ≤ 1) : cntR a b l = 0 := by
  match l, h with
  | [], _ => exact cntR_nil a b
  | [x], _ => exact cntR_one a b x
theorem map_drop_cons {ms : List Mod} {k : Nat} {m : Mod} (h : ms.drop k = m :: ms.drop (k + 1)) : (ms.map Mod.name).drop k = m.name :: (ms.map Mod.name).drop (k + 1) := by
  rw [← List.map_drop, h, List.map_cons, List.map_drop]
end Go.Proofs.YtckffdaomjbglaaDoor

/-! Ie -/
namespace Go.Proofs.YtckffdaomjbglaaDoor
open Go.RowKit Go.Sort

/-- a pair replaced -/
def putF (a b nm : Int) : List Int → List Int
  | x :: y :: r => if x = a ∧ y = b then nm :: putF a b nm r else x :: putF a b nm (y :: r)
  | [x] => [x]
  | [] => []
theorem putF_two (a b nm x y : Int) (r : List Int) : putF a b nm (x :: y :: r) = if x = a ∧ y = b then nm :: putF a b nm r else x :: putF a b nm (y :: r) := by simp [putF]
theorem putF_short {a b nm : Int} {l : List Int} (h : l.length ≤ 1) : putF a b nm l = l := by
  match l, h with
  | [], _ => simp [putF]
  | [x], _ => simp [putF]
def modOf (c : Int) : Mod := ⟨c, []⟩
def ModsPost (l : List Int) (w : World) (e : Ending) (w' : World) : Prop :=
  ∃ A c, e = .returned (.slice A l.length c) ∧ Own pMod 50 w.heap.size (w.heap.size ≤ ·) w' (.slice A l.length c) (l.map modOf) ∧ Below w.heap.size w w'
theorem sl_nilI {F : Nat → Prop} {w : World} {k : IntKind} : SlAt (pI k) F w none 0 [] := ⟨Nat.le_refl _, by simp, fun _ => rfl, fun i x hx => by simp at hx⟩
theorem modOf_R {F : Nat → Prop} {w : World} {c : Int} (h : Fits .u8 c) : pMod.R F w (Value.agg #[.int .u8 c, .slice none 0 0]).cells.toList (modOf c) :=
  ⟨none, 0, by simp [modOf, Value.cells], h, sl_nilI⟩
set_option maxRecDepth 100000 in
set_option maxHeartbeats 1000000 in
theorem modules_calls (A : Option Addr) (c : Nat) (l : List Int) (w : World) (h : SlAt (pI .u8) (Old w) w A c l) (hl : l.length ≤ 100000) : Calls Tryd.prog 26 #[.slice A l.length c] w (ModsPost l w) := by
  have hmx := h.lenle
  have H := Lib.hid h; clear h
  go_enter Tryd.func26, Tryd.ntmps26
  go_wp2
  go_loopw [8, 3] (fun i out wr => ∃ (k : Nat) (Ao : Option Addr) (co : Nat), k ≤ l.length ∧ i = .int .i64 k ∧ out = .slice Ao k co ∧ Hid (Below w.heap.size w wr) ∧ w.heap.size ≤ wr.heap.size ∧ Hid (Own pMod 50 w.heap.size (w.heap.size ≤ ·) wr (.slice Ao k co) ((l.take k).map modOf))) (fun i _ _ => l.length - (intOf i).toNat)
  case atStart => exact ⟨0, none, 0, Nat.zero_le _, rfl, rfl, Below.refl _ _, Nat.le_refl _, Own.nil⟩
  case round =>
    obtain ⟨k, Ao, co, hk, rfl, rfl, hb, hsz, hown⟩ := hrel
    obtain ⟨wo, rfl⟩ : ∃ wo : World, wo = wr := ⟨_, rfl⟩
    by_cases hlt : k < l.length
    case neg =>
      obtain rfl : k = l.length := by omega
      have hown' := hown.out
      rw [List.take_length] at hown'
      have Hown' := Lib.hid hown'; clear hown'
      go_wp2
      go_ret
      exact ⟨Ao, co, rfl, Hown'.out, hb.out⟩
    case pos =>
      obtain ⟨b, o, x, hd, hB, hob, q0, hx8⟩ := (H.out.below hb.out).getI hlt
      subst hB
      have hob' : b < wo.heap.size := by have : b < w.heap.size := hob; omega
      have hln : ((l.take k).map modOf).length + 1 = k + 1 := by rw [List.length_map, List.length_take]; omega
      have hrm : Room ((l.take k).map modOf).length := room_of (by rw [List.length_map, List.length_take]; omega)
      have hR : pMod.R (fun _ => False) wo (Value.agg #[.int .u8 x, .slice none 0 0]).cells.toList (modOf x) := modOf_R hx8
      have Hln := Lib.hid hln; clear hln
      have Hrm := Lib.hid hrm; clear hrm
      have HR := Lib.hid hR; clear hR
      have Hd := Lib.hid hd; clear hd
      have Hown := Lib.hid hown; clear hown
      go_wp2_with ((with_reducible show wpList _ _ _ (Oper.mk (some 15) _ _ _ _ _ :: _) _ _); refine wpList_pushG (E := pMod) (xs := (l.take k).map modOf) (v := .slice Ao k co) (base := w.heap.size) (G := (w.heap.size ≤ ·)) 22 50 (.agg #[.int .u8 0, .slice none 0 0]) 32 15 (.tmp 12) (.tmp 14) rfl rfl rfl rfl rfl Tryd.underlying22 (by kernel_rfl) rfl (by decide) (fun _ => rfl) (fun _ => rfl) Hown.out.out (.agg #[.int .u8 x, .slice none 0 0]) rfl (modOf x) (fun _ => False) HR.out (fun _ h => h.elim) (k + 1) Hln.out Hrm.out ⟨by decide, by decide⟩ hsz ?_; intro A6 c6 w6 hown6 hg6)
      go_roundw
      case rel =>
        have hz6 := hg6.out.bel.size
        refine ⟨k + 1, A6, c6, hlt, by go_num, rfl, hb.out.trans hg6.out.bel, by omega, ?_⟩
        unfold Hid; rw [take_of_drop Hd.out.out, List.map_append]; exact hown6.out
      case measure => simp [intOf]; omega
end Go.Proofs.YtckffdaomjbglaaDoor

/-! If -/
namespace Go.Proofs.YtckffdaomjbglaaDoor
open Go.RowKit Go.Sort

theorem putF_last {a b nm : Int} {l : List Int} {k : Nat} {x : Int} (hd : l.drop k = x :: l.drop (k + 1)) (h : l.length ≤ k + 1) : putF a b nm (l.drop k) = x :: putF a b nm (l.drop (k + 1)) := by
  have h1 : l.drop (k + 1) = [] := List.drop_eq_nil_iff.2 h
  rw [hd, h1]; simp [putF]
end Go.Proofs.YtckffdaomjbglaaDoor

/-! We -/
namespace Go.Proofs.YtckffdaomjbglaaDoor
open Go.RowKit

theorem info_mod : (Tryd.prog.info? 50).map (fun i => (i.zero, i.size, i.bytes)) = some (some (.agg #[.int .u8 0, .slice none 0 0]), 2, 32) := by kernel_rfl

/-- the cells of a block of modules, k of them twinned -/
def TwinAt (w0 : World) (g : Nat) (ms : List Mod) (k : Nat) (w : World) (C : Array Value) : Prop :=
  ∀ i m, ms[i]? = some m → ∃ A' c', C[i * 2]? = some (.int .u8 m.name) ∧ C[i * 2 + 1]? = some (.slice A' m.args.length c') ∧ Fits .u8 m.name ∧
    ((i < k ∧ SlAt (pI .i64) (fun q => g < q ∧ q < w.heap.size) w A' c' m.args ∧ (m.args ≠ [] → ∀ b o, A' = some ⟨b, o, none⟩ → Unf w b)) ∨ (k ≤ i ∧ SlAt (pI .i64) (Old w0) w A' c' m.args))

def TwinPost (ms : List Mod) (w : World) (e : Ending) (w' : World) : Prop :=
  ∃ A c, e = .returned (.slice A ms.length c) ∧ Own pModF 50 w.heap.size (w.heap.size ≤ ·) w' (.slice A ms.length c) ms ∧ Below w.heap.size w w'

theorem twinAt_own {w0 w : World} {g : Nat} {ms : List Mod} {C : Array Value} (hb : Blk w g 50 C) (hC : C.size = ms.length * 2) (hg : w0.heap.size ≤ g) (hm : ms.length ≤ maxLen) (h : TwinAt w0 g ms ms.length w C) :
    Own pModF 50 w0.heap.size (w0.heap.size ≤ ·) w (.slice (some ⟨g, 0, none⟩) ms.length ms.length) ms := by
  refine ⟨C.toList, ⟨by simpa [pModF] using hC, .inr ⟨g, ms.length, C, rfl, hg, hb, Nat.le_refl _, hm, by simpa [pModF] using hC, ?_⟩⟩, ?_⟩
  · exact List.take_of_length_le (by simp [pModF]; omega)
  · refine cellsAre_idx (by simpa [pModF] using hC) fun i m hi => ?_
    obtain ⟨A', c', h1, h2, h3, h4⟩ := h i m hi
    have hlt : i < ms.length := (List.getElem?_eq_some_iff.1 hi).1
    rcases h4 with ⟨_, h5, h6⟩ | ⟨h5, _⟩
    · refine ⟨[.int .u8 m.name, .slice A' m.args.length c'], ⟨A', c', rfl, h3, h5.wide fun q hq => ⟨by omega, hq.2, fun he => ?_⟩, h6⟩, fun j c hc => ?_⟩
      · simp [Value.ownBlock] at he; omega
      · match j, hc with
        | 0, hc => simp at hc; subst hc; simpa [pModF] using h1
        | 1, hc => simp at hc; subst hc; simpa [pModF] using h2
    · omega

theorem info_int2 : (Tryd.prog.info? 3).map (fun i => (i.zero, i.size, i.bytes)) = some (some (.int .i64 0), 1, 8) := by kernel_rfl

set_option maxRecDepth 100000 in
set_option maxHeartbeats 1000000 in
theorem twin_calls (A : Option Addr) (c : Nat) (ms : List Mod) (w : World) (h : SlAt pMod (Old w) w A c ms) (hbd : ms.length ≤ 10000) (hbd2 : ∀ m ∈ ms, m.args.length ≤ 1000) :
    Calls Tryd.prog 37 #[.slice A ms.length c] w (TwinPost ms w) := by
  have hmx := h.lenle
  have H := Lib.hid h; clear h
  have Hbd2 := Lib.hid hbd2; clear hbd2
  have hmk := fun (wx : World) => run_make_rowN (P := Tryd.prog) (t := 22) (e := 50) Tryd.underlying22 info_mod ms.length (by omega) (by omega) wx
  have hcell : ∀ q, Old w q → (w.alloc (.cells (madeCells (Value.agg #[.int .u8 0, .slice none 0 0]).cells (ms.length * 2)) 50)).heap[q]? = w.heap[q]? := fun q hq => Below.heap_alloc _ _ _ hq
  have H1 := Lib.hid (H.out.keep hcell)
  clear hcell
  go_enter Tryd.func37, Tryd.ntmps37
  go_wp2_with ((with_reducible show wpList _ _ _ (Oper.mk (some 10) _ _ _ _ _ :: _) _ _); refine wpList_copyAll (E := pMod) 22 50 (.tmp 8) (.tmp 9) rfl rfl Tryd.underlying22 (by kernel_rfl) ms.length w.heap.size 50 _ rfl (Blk.new _ _ _) (size_madeCells _ _) A c ms rfl rfl (Old w) H1.out (fun q hq => Nat.ne_of_lt hq) w.heap.size w ((Below.refl _ _).alloc (Nat.le_refl _) _) (Nat.le_refl _) ?_; intro w1 cells hblk hcells hb1 hk1 hsz1)
  have hsz1' : w.heap.size < w1.heap.size := by rw [hsz1]; simp
  have hC1 : TwinAt w w.heap.size ms 0 w1 cells.toArray ∧ cells.toArray.size = ms.length * 2 := by
    refine ⟨fun i m hi => ?_, by simpa [pMod] using hcells.out.length⟩
    obtain ⟨cs, ⟨A', c', rfl, h3, h4⟩, h5⟩ := hcells.out.get hi
    exact ⟨A', c', by simpa [pMod] using h5 0 _ rfl, by simpa [pMod] using h5 1 _ rfl, h3, .inr ⟨Nat.zero_le _, h4⟩⟩
  have HC1 := Lib.hid hC1; clear hC1 hmk hk1
  go_loopw [13] (fun i wr => ∃ k : Nat, k ≤ ms.length ∧ i = .int .i64 k ∧ Hid (Below w.heap.size w wr) ∧ w.heap.size < wr.heap.size ∧ ∃ C : Array Value, Hid (Blk wr w.heap.size 50 C) ∧ Hid (TwinAt w w.heap.size ms k wr C ∧ C.size = ms.length * 2)) (fun i _ => ms.length - (intOf i).toNat)
  case atStart => exact ⟨0, Nat.zero_le _, rfl, hb1, hsz1', _, hblk, HC1⟩
  case round =>
    obtain ⟨k, hk, rfl, hb, hsz, C, hblk2, hC⟩ := hrel
    obtain ⟨wo, rfl⟩ : ∃ wo : World, wo = wr := ⟨_, rfl⟩
    clear hblk hcells hb1 HC1 hsz1 hsz1'
    by_cases hlt : k < ms.length
    · obtain ⟨A', c', h0, h1, hf8, harr⟩ := hC.out.1 k ms[k] (List.getElem?_eq_getElem hlt)
      have hold : SlAt (pI .i64) (Old w) wo A' c' ms[k].args := by
        rcases harr with ⟨h, _⟩ | ⟨_, h⟩
        · omega
        · exact h
      have hal : ms[k].args.length ≤ 1000 := Hbd2.out _ (List.getElem_mem hlt)
      clear harr
      obtain ⟨m, hm⟩ : ∃ m, m = ms[k] := ⟨_, rfl⟩
      rw [← hm] at h0 h1 hf8 hold hal
      have Hm := Lib.hid (show ms[k]? = some m by rw [hm]; exact List.getElem?_eq_getElem hlt)
      clear hm
      have hc1 := (hblk2.out.cell (k * 2 + 1)).trans h1
      have hfz := hblk2.out.free (k * 2 + 1)
      have Hold := Lib.hid hold; clear hold
      have H0 := Lib.hid h0; clear h0
      have H1' := Lib.hid h1; clear h1
      have hnil : Own (pI .i64) 3 wo.heap.size (fun _ => True) wo (.slice none 0 0) [] := Own.nil
      have Hnil := Lib.hid hnil; clear hnil
      go_wp2_with (at_builtin; refine wpList_cat (E := pI .i64) (xs := []) (v := .slice none 0 0) (base := wo.heap.size) (G := fun _ => True) 48 3 (.int .i64 0) 8 _ (.tmp 22) rfl rfl Tryd.underlying48 info_int2 rfl (by decide) rfl Hnil.out A' c' m.args rfl (Old w) Hold.out ?a2 m.args.length rfl (room_of ?a3) (by decide) (Nat.le_refl _) ?_; rotate_right; intro A1 c1 w2 hown1 hb2 hk2; have Hown1 := Lib.hid hown1; have Hk2 := Lib.hid hk2; clear hown1 hk2; have hfz2 := (Below.frozen hb2 (p := ⟨w.heap.size, k * 2 + 1, none⟩) hsz).trans hfz; have hc2 := (Below.cell hb2 (p := ⟨w.heap.size, k * 2 + 1, none⟩) hsz).trans hc1; have Hb2 := Lib.hid hb2; have hsz2 := hb2.size; clear hb2)
      case a2 => intro q hq; exact ⟨trivial, Nat.lt_trans hq hsz, by simp [Value.ownBlock]⟩
      case a3 => omega
      go_roundw
      case rel =>
        have hW : ∀ q, q ≠ w.heap.size → q < wo.heap.size → (w2.setCell ⟨w.heap.size, k * 2 + 1, none⟩ (.slice A1 m.args.length c1)).heap[q]? = wo.heap[q]? := fun q hq hlt' => by
          rw [Below.heap_setCell _ _ _ _ hq, Hb2.out.block q hlt']
        have hW2 : ∀ q, q ≠ w.heap.size → (w2.setCell ⟨w.heap.size, k * 2 + 1, none⟩ (.slice A1 m.args.length c1)).heap[q]? = w2.heap[q]? := fun q hq => Below.heap_setCell _ _ _ _ hq
        have hbW : Below w.heap.size w (w2.setCell ⟨w.heap.size, k * 2 + 1, none⟩ (.slice A1 m.args.length c1)) := (hb.out.trans (Hb2.out.mono (Nat.le_of_lt hsz))).setCell (Nat.le_refl _) _
        have hszW : (w2.setCell ⟨w.heap.size, k * 2 + 1, none⟩ (.slice A1 m.args.length c1)).heap.size = w2.heap.size := by simp [World.setCell]
        have hB2 : Blk w2 w.heap.size 50 C := hblk2.out.same (Hb2.out.block _ hsz)
        refine ⟨k + 1, by omega, by go_num, hbW, by rw [hszW]; omega, _, hB2.set (k * 2 + 1) (.slice A1 m.args.length c1), fun i m' hi => ?_, by simpa using hC.out.2⟩
        by_cases hik : i = k
        · subst hik
          rw [Hm.out] at hi
          cases hi
          have hCs : i * 2 + 1 < C.size := (Array.getElem?_eq_some_iff.1 H1'.out).1
          refine ⟨A1, c1, ?_, ?_, hf8, .inl ⟨Nat.lt_succ_self _, ?_, ?_⟩⟩
          · rw [Array.getElem?_setIfInBounds_ne (by omega)]; exact H0.out
          · rw [Array.getElem?_setIfInBounds_self_of_lt hCs]
          · obtain ⟨A3, c3, h3, h4⟩ := (Hown1.out.flat (pI_flat _) (G' := (wo.heap.size ≤ ·))).fresh
            cases h3
            exact (h4.wide fun q hq => ⟨by omega, by rw [hszW]; exact hq.2⟩).keep fun q hq => hW2 q (by omega)
          · intro hne b o hA
            subst hA
            refine unf_same (own_unf Hown1.out) (hW2 b ?_)
            have := Hown1.out.lt b rfl
            omega
        · obtain ⟨A2, c2, g0, g1, g2, g3⟩ := hC.out.1 i m' hi
          refine ⟨A2, c2, ?_, ?_, g2, ?_⟩
          · rw [Array.getElem?_setIfInBounds_ne (by omega)]; exact g0
          · rw [Array.getElem?_setIfInBounds_ne (by omega)]; exact g1
          · rcases g3 with ⟨g3, g4, g5⟩ | ⟨g3, g4⟩
            · refine .inl ⟨by omega, (g4.keep fun q hq => hW q (by omega) hq.2).wide fun q hq => ⟨hq.1, by rw [hszW]; omega⟩, fun hne b o hA => ?_⟩
              obtain ⟨b', o', _, _, hA', hFq, _⟩ := g4.getI (i := 0) (List.length_pos_iff.2 hne)
              rw [hA] at hA'; cases hA'
              exact unf_same (g5 hne b o hA) (hW b (by omega) hFq.2)
            · exact .inr ⟨by omega, g4.keep fun q hq => hW q (Nat.ne_of_lt hq) (Nat.lt_trans hq hsz)⟩
      case measure => simp [intOf]; omega
    · obtain rfl : k = ms.length := by omega
      go_wp2
      go_ret
      exact ⟨_, _, rfl, twinAt_own hblk2.out hC.out.2 (Nat.le_refl _) (by unfold maxLen; omega) hC.out.1, hb.out⟩

end Go.Proofs.YtckffdaomjbglaaDoor

/-! Wf -/
namespace Go.Proofs.YtckffdaomjbglaaDoor
open Go.RowKit

def RefTwinPost (ms : List Mod) (w : World) (e : Ending) (w' : World) : Prop :=
  ∃ A c, e = .returned (.slice A ms.length c) ∧ Own pMod 50 w.heap.size (w.heap.size ≤ ·) w' (.slice A ms.length c) ms ∧ Below w.heap.size w w'

end Go.Proofs.YtckffdaomjbglaaDoor

/-! Wg -/
namespace Go.Proofs.YtckffdaomjbglaaDoor
open Go.RowKit Go.Sort

theorem beq_mod (m n : Mod) : (m == n) = (m.name == n.name && m.args == n.args) := by
  rw [Bool.eq_iff_iff, beq_iff_eq, Bool.and_eq_true, beq_iff_eq, beq_iff_eq]
  obtain ⟨a, b⟩ := m
  obtain ⟨c, d⟩ := n
  simp


set_option maxRecDepth 100000 in
set_option maxHeartbeats 1000000 in
theorem sameMods_calls {F : Nat → Prop} (A B : Option Addr) (c c' : Nat) (m n : Mod) (w : World) (h : SlAt (pI .i64) F w A c m.args) (h' : SlAt (pI .i64) F w B c' n.args) (hF : ∀ k, F k → k < w.heap.size) :
    Calls Tryd.prog 29 #[.agg #[.int .u8 m.name, .slice A m.args.length c], .agg #[.int .u8 n.name, .slice B n.args.length c']] w (BoolPost (m == n) w) := by
  rw [beq_mod]
  obtain ⟨nm, xs⟩ := m
  obtain ⟨nn, ys⟩ := n
  simp only at h h' ⊢
  have hmx := h.lenle
  have hmy := h'.lenle
  have H := Lib.hid h; clear h
  have H' := Lib.hid h'; clear h'
  have HF := Lib.hid hF; clear hF
  have hbW : Below w.heap.size w ((w.alloc (.cells #[.int .u8 nm, .slice A xs.length c] 50)).alloc (.cells #[.int .u8 nn, .slice B ys.length c'] 50)) := ((Below.refl _ _).alloc (Nat.le_refl _) _).alloc (by simp) _
  have HbW := Lib.hid hbW; clear hbW
  by_cases hn : nm = nn
  · have e0 : (nm != nn) = false := by simp [hn]
    have Hn := Lib.hid hn; clear hn
    by_cases hl : xs.length = ys.length
    · have e1 : ((xs.length : Int) != (ys.length : Int)) = false := by simp [hl]
      have Hl := Lib.hid hl; clear hl
      have hkp : ∀ (d : Nat) k, F k → ((((w.alloc (.cells #[.int .u8 nm, .slice A xs.length c] 50)).alloc (.cells #[.int .u8 nn, .slice B ys.length c'] 50))).drewN d).heap[k]? = w.heap[k]? := fun d k hk =>
        (Below.heap_alloc _ _ _ (by have := HF.out k hk; simp; omega)).trans (Below.heap_alloc _ _ _ (HF.out k hk))
      have Hx := Lib.hid (fun d => H.out.keep (hkp d))
      have Hy := Lib.hid (fun d => H'.out.keep (hkp d))
      clear hkp
      have hc1 : ∀ d : Nat, ((((w.alloc (.cells #[.int .u8 nm, .slice A xs.length c] 50)).alloc (.cells #[.int .u8 nn, .slice B ys.length c'] 50))).drewN d).cell? ⟨w.heap.size, 1, none⟩ = some (.slice A xs.length c) := fun d =>
        (cell_keep (w := w.alloc (.cells #[.int .u8 nm, .slice A xs.length c] 50)) (Below.heap_alloc _ _ _ (by simp))).trans ((Blk.new w _ _).cell 1)
      have hc2 : ∀ d : Nat, ((((w.alloc (.cells #[.int .u8 nm, .slice A xs.length c] 50)).alloc (.cells #[.int .u8 nn, .slice B ys.length c'] 50))).drewN d).cell? ⟨w.heap.size + 1, 1, none⟩ = some (.slice B ys.length c') := fun d => by
        simp
      have Hc1 := Lib.hid hc1; have Hc2 := Lib.hid hc2
      clear hc1 hc2
      go_enter Tryd.func29, Tryd.ntmps29
      go_wp2
      go_loopw [5] (fun i wr => ∃ k : Nat, k ≤ xs.length ∧ i = .int .i64 k ∧ Hid ((xs == ys) = (xs.drop k == ys.drop k)) ∧ ∃ d : Nat, wr = (((w.alloc (.cells #[.int .u8 nm, .slice A xs.length c] 50)).alloc (.cells #[.int .u8 nn, .slice B ys.length c'] 50))).drewN d) (fun i _ => xs.length - (intOf i).toNat)
      case atStart => exact ⟨0, Nat.zero_le _, rfl, rfl, 0, rfl⟩
      case round =>
        obtain ⟨k, hk, rfl, hin, d, hw⟩ := hrel
        have hbr : Below w.heap.size w wr := by rw [hw]; exact below_drewN HbW.out d
        have hc1 := Hc1.out d
        have hc2 := Hc2.out d
        have hx := Hx.out d
        have hy := Hy.out d
        rw [← hw] at hc1 hc2 hx hy
        have Hbr := Lib.hid hbr; clear hbr
        have Hw := Lib.hid hw; clear hw
        clear Hx Hy
        by_cases hlt : k < xs.length
        · have hlt' : k < ys.length := by rw [← Hl.out]; exact hlt
          obtain ⟨b, o, x, hdx, rfl, _, hc, _⟩ := hx.getI hlt
          obtain ⟨b', o', y, hdy, rfl, _, hc', _⟩ := hy.getI hlt'
          clear hx hy
          by_cases hxy : x = y
          · have e1 : (x != y) = false := by simp [hxy]
            have Hxy := Lib.hid hxy; clear hxy
            go_wp2
            go_quiet (fail)
            go_wp2
            go_roundw
            case rel =>
              refine ⟨k + 1, by omega, by go_num, ?_, ?_⟩
              · unfold Hid; rw [hin.out, hdx.out, hdy.out, Hxy.out]; simp
              · rw [Hw.out]; exact ⟨_, World.drewN_drewN _ _ _⟩
            case measure => simp [intOf]; omega
          · have e1 : (x != y) = true := by simp [hxy]
            have Hxy := Lib.hid hxy; clear hxy
            go_wp2
            go_quiet (fail)
            go_wp2
            go_ret
            refine ⟨ret_bool ?_, below_drewN Hbr.out _⟩
            rw [hin.out, hdx.out, hdy.out, List.cons_beq_cons, beq_false_of_ne Hxy.out]; simp
        · clear hx hy
          go_wp2
          go_ret
          refine ⟨ret_bool ?_, Hbr.out⟩
          rw [hin.out, drop_end hlt, drop_end (by rw [← Hl.out]; exact hlt), Hn.out]; simp
    · have e1 : ((xs.length : Int) != (ys.length : Int)) = true := by simp; omega
      have Hl := Lib.hid hl; clear hl
      go_enter Tryd.func29, Tryd.ntmps29
      go_wp2
      go_ret
      refine ⟨ret_bool ?_, HbW.out⟩
      cases hb : xs == ys
      · simp
      · exact absurd (congrArg List.length (eq_of_beq hb)) Hl.out
  · have e0 : (nm != nn) = true := by simp [hn]
    have Hn := Lib.hid hn; clear hn
    go_enter Tryd.func29, Tryd.ntmps29
    go_wp2
    go_ret
    refine ⟨ret_bool ?_, HbW.out⟩
    rw [beq_false_of_ne Hn.out]; rfl
set_option maxRecDepth 100000 in
set_option maxHeartbeats 1000000 in
theorem refSame_calls (A B : Option Addr) (c c' : Nat) (xs ys : List Mod) (w : World) (h : SlAt pMod (Old w) w A c xs) (h' : SlAt pMod (Old w) w B c' ys) :
    Calls Tryd.prog 12 #[.slice A xs.length c, .slice B ys.length c'] w (BoolPost (xs == ys) w) := by
  have hmx := h.lenle
  have hmy := h'.lenle
  have H := Lib.hid h; clear h
  have H' := Lib.hid h'; clear h'
  by_cases hl : xs.length = ys.length
  · have e1 : ((xs.length : Int) != (ys.length : Int)) = false := by simp [hl]
    have Hl := Lib.hid hl; clear hl
    go_enter Tryd.func12, Tryd.ntmps12
    go_wp2
    go_loopw [5] (fun i wr => ∃ k : Nat, k ≤ xs.length ∧ i = .int .i64 k ∧ Hid ((xs == ys) = (xs.drop k == ys.drop k)) ∧ Hid (Below w.heap.size w wr) ∧ w.heap.size ≤ wr.heap.size) (fun i _ => xs.length - (intOf i).toNat)
    case atStart => exact ⟨0, Nat.zero_le _, rfl, rfl, Below.refl _ _, Nat.le_refl _⟩
    case round =>
      obtain ⟨k, hk, rfl, hin, hb, hsz⟩ := hrel
      by_cases hlt : k < xs.length
      · have hlt' : k < ys.length := by rw [← Hl.out]; exact hlt
        obtain ⟨b, o, A', d, m, hdx, rfl, _, hx0, hx1, _, hxa, _⟩ := (H.out.below hb.out).getMod hlt
        obtain ⟨b', o', B', d', n, hdy, rfl, _, hy0, hy1, _, hya, _⟩ := (H'.out.below hb.out).getMod hlt'
        have kx0 := cell_regrown hx0
        have kx1 := cell_regrown hx1
        have ky0 := cell_regrown hy0
        have ky1 := cell_regrown hy1
        clear hx0 hx1 hy0 hy1
        have hcall : ∀ (q : Nat) (os : Array Obj), Calls Tryd.prog 29 #[.agg #[.int .u8 m.name, .slice A' m.args.length d], .agg #[.int .u8 n.name, .slice B' n.args.length d']] (grow (redrawn wr q) os) fun e w'' => e = .returned (.bool (m == n)) ∧ ∃ p : Regrown, w'' = grow (redrawn wr p.d) p.os := fun q os =>
          have hg := below_regrown wr q os
          Calls.regrown_of (sameMods_calls A' B' d d' m n _ (hxa.out.keep fun k hk => hg.block k (Nat.lt_of_lt_of_le hk hsz)) (hya.out.keep fun k hk => hg.block k (Nat.lt_of_lt_of_le hk hsz)) (fun k hk => Nat.lt_of_lt_of_le (Nat.lt_of_lt_of_le hk hsz) hg.size))
        have Hcall := Lib.hid hcall; clear hcall
        generalize hmn : (m == n) = t at Hcall
        have Hmn := Lib.hid hmn; clear hmn
        go_wp2
        refine wp_region_quiet_below (by kernel_rfl) (by kernel_rfl) ?_
        repeat (quiet_step (exact Hcall.out _ _))
        refine wpQuiet_nil ?_
        intro _ hw'
        obtain ⟨⟨dq, osq⟩, hw''⟩ := hw'
        subst hw''
        have hbw : Below w.heap.size w (grow (redrawn wr dq) osq) := hb.out.trans ((below_regrown wr dq osq).mono hsz)
        have Hbw := Lib.hid hbw; clear hbw
        cases t
        · go_wp2
          go_ret
          refine ⟨ret_bool ?_, Hbw.out⟩
          rw [hin.out, hdx.out, hdy.out, List.cons_beq_cons, Hmn.out]; rfl
        · go_wp2
          go_roundw
          case rel =>
            refine ⟨k + 1, by omega, by go_num, ?_, Hbw, Hbw.out.size⟩
            unfold Hid; rw [hin.out, hdx.out, hdy.out, List.cons_beq_cons, Hmn.out]; rfl
          case measure => simp [intOf]; omega
      · go_wp2
        go_ret
        refine ⟨ret_bool ?_, hb.out⟩
        rw [hin.out, drop_end hlt, drop_end (by rw [← Hl.out]; exact hlt)]; rfl
  · have e1 : ((xs.length : Int) != (ys.length : Int)) = true := by simp; omega
    have Hl := Lib.hid hl; clear hl
    go_enter Tryd.func12, Tryd.ntmps12
    go_wp2
    go_ret
    refine ⟨ret_bool ?_, Below.refl _ _⟩
    cases hb : xs == ys
    · rfl
    · exact absurd (congrArg List.length (eq_of_beq hb)) Hl.out
end Go.Proofs.YtckffdaomjbglaaDoor
