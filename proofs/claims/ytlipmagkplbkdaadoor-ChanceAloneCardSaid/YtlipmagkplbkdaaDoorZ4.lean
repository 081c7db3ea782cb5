/- Texts of the proof that the statement of ChanceAlone holds, several in one. -/
import Derived.WalkKit
import Derived.WalkSpells
import Derived.WalkLawsBesides
import Derived.ProofKit
import Derived.Lib.Hide
import Derived.Deep.Slices
import Derived.Deep.Draws
import Derived.ShutString
import Derived.ChangeOld
import Derived.Maps.AppendAt
import Derived.Deep.AppendLies
import Derived.Deep.OwnRows
set_option linter.unusedVariables false
set_option linter.unusedSimpArgs false
set_option linter.unusedSectionVars false
set_option maxRecDepth 100000
set_option maxHeartbeats 8000000
namespace Go.Proofs.YtlipmagkplbkdaaDoor
section
open Go.RowKit
theorem HH1 {a : Prop} (x : a) : Hid a := Lib.hid x
theorem HH2 {a0 a1 : Prop} (x0 : a0) (x1 : a1) : Hid a0 /\ Hid a1 := ⟨Lib.hid x0, Lib.hid x1⟩
theorem HH3 {a0 a1 a2 : Prop} (x0 : a0) (x1 : a1) (x2 : a2) : Hid a0 /\ Hid a1 /\ Hid a2 := ⟨Lib.hid x0, Lib.hid x1, Lib.hid x2⟩
theorem HH4 {a0 a1 a2 a3 : Prop} (x0 : a0) (x1 : a1) (x2 : a2) (x3 : a3) : Hid a0 /\ Hid a1 /\ Hid a2 /\ Hid a3 := ⟨Lib.hid x0, Lib.hid x1, Lib.hid x2, Lib.hid x3⟩
theorem HH5 {a0 a1 a2 a3 a4 : Prop} (x0 : a0) (x1 : a1) (x2 : a2) (x3 : a3) (x4 : a4) : Hid a0 /\ Hid a1 /\ Hid a2 /\ Hid a3 /\ Hid a4 := ⟨Lib.hid x0, Lib.hid x1, Lib.hid x2, Lib.hid x3, Lib.hid x4⟩
theorem HH6 {a0 a1 a2 a3 a4 a5 : Prop} (x0 : a0) (x1 : a1) (x2 : a2) (x3 : a3) (x4 : a4) (x5 : a5) : Hid a0 /\ Hid a1 /\ Hid a2 /\ Hid a3 /\ Hid a4 /\ Hid a5 := ⟨Lib.hid x0, Lib.hid x1, Lib.hid x2, Lib.hid x3, Lib.hid x4, Lib.hid x5⟩
theorem HH7 {a0 a1 a2 a3 a4 a5 a6 : Prop} (x0 : a0) (x1 : a1) (x2 : a2) (x3 : a3) (x4 : a4) (x5 : a5) (x6 : a6) : Hid a0 /\ Hid a1 /\ Hid a2 /\ Hid a3 /\ Hid a4 /\ Hid a5 /\ Hid a6 := ⟨Lib.hid x0, Lib.hid x1, Lib.hid x2, Lib.hid x3, Lib.hid x4, Lib.hid x5, Lib.hid x6⟩
theorem HH8 {a0 a1 a2 a3 a4 a5 a6 a7 : Prop} (x0 : a0) (x1 : a1) (x2 : a2) (x3 : a3) (x4 : a4) (x5 : a5) (x6 : a6) (x7 : a7) : Hid a0 /\ Hid a1 /\ Hid a2 /\ Hid a3 /\ Hid a4 /\ Hid a5 /\ Hid a6 /\ Hid a7 := ⟨Lib.hid x0, Lib.hid x1, Lib.hid x2, Lib.hid x3, Lib.hid x4, Lib.hid x5, Lib.hid x6, Lib.hid x7⟩
theorem HH9 {a0 a1 a2 a3 a4 a5 a6 a7 a8 : Prop} (x0 : a0) (x1 : a1) (x2 : a2) (x3 : a3) (x4 : a4) (x5 : a5) (x6 : a6) (x7 : a7) (x8 : a8) : Hid a0 /\ Hid a1 /\ Hid a2 /\ Hid a3 /\ Hid a4 /\ Hid a5 /\ Hid a6 /\ Hid a7 /\ Hid a8 := ⟨Lib.hid x0, Lib.hid x1, Lib.hid x2, Lib.hid x3, Lib.hid x4, Lib.hid x5, Lib.hid x6, Lib.hid x7, Lib.hid x8⟩
theorem HH10 {a0 a1 a2 a3 a4 a5 a6 a7 a8 a9 : Prop} (x0 : a0) (x1 : a1) (x2 : a2) (x3 : a3) (x4 : a4) (x5 : a5) (x6 : a6) (x7 : a7) (x8 : a8) (x9 : a9) : Hid a0 /\ Hid a1 /\ Hid a2 /\ Hid a3 /\ Hid a4 /\ Hid a5 /\ Hid a6 /\ Hid a7 /\ Hid a8 /\ Hid a9 := ⟨Lib.hid x0, Lib.hid x1, Lib.hid x2, Lib.hid x3, Lib.hid x4, Lib.hid x5, Lib.hid x6, Lib.hid x7, Lib.hid x8, Lib.hid x9⟩
theorem HH11 {a0 a1 a2 a3 a4 a5 a6 a7 a8 a9 a10 : Prop} (x0 : a0) (x1 : a1) (x2 : a2) (x3 : a3) (x4 : a4) (x5 : a5) (x6 : a6) (x7 : a7) (x8 : a8) (x9 : a9) (x10 : a10) : Hid a0 /\ Hid a1 /\ Hid a2 /\ Hid a3 /\ Hid a4 /\ Hid a5 /\ Hid a6 /\ Hid a7 /\ Hid a8 /\ Hid a9 /\ Hid a10 := ⟨Lib.hid x0, Lib.hid x1, Lib.hid x2, Lib.hid x3, Lib.hid x4, Lib.hid x5, Lib.hid x6, Lib.hid x7, Lib.hid x8, Lib.hid x9, Lib.hid x10⟩
theorem HH12 {a0 a1 a2 a3 a4 a5 a6 a7 a8 a9 a10 a11 : Prop} (x0 : a0) (x1 : a1) (x2 : a2) (x3 : a3) (x4 : a4) (x5 : a5) (x6 : a6) (x7 : a7) (x8 : a8) (x9 : a9) (x10 : a10) (x11 : a11) : Hid a0 /\ Hid a1 /\ Hid a2 /\ Hid a3 /\ Hid a4 /\ Hid a5 /\ Hid a6 /\ Hid a7 /\ Hid a8 /\ Hid a9 /\ Hid a10 /\ Hid a11 := ⟨Lib.hid x0, Lib.hid x1, Lib.hid x2, Lib.hid x3, Lib.hid x4, Lib.hid x5, Lib.hid x6, Lib.hid x7, Lib.hid x8, Lib.hid x9, Lib.hid x10, Lib.hid x11⟩
structure Rp (α : Type) where
 n : Nat
 R : (Nat -> Prop) -> World -> List Value -> α -> Prop
 len : ∀ {F w cs x}, R F w cs x -> cs.length = n
 keep : ∀ {F : Nat -> Prop} {w w' : World} {cs x}, R F w cs x -> (∀ k, F k -> w'.heap[k]? = w.heap[k]?) -> R F w' cs x
 wide : ∀ {F F' : Nat -> Prop} {w cs x}, R F w cs x -> (∀ k, F k -> F' k) -> R F' w cs x
 one : ∀ {F w cs x}, R F w cs x -> ∀ v ∈ cs, v.oneCell' = true
theorem cell_keep {w w' : World} {b o : Nat} (h : w'.heap[b]? = w.heap[b]?) : w'.cell? ⟨b, o, none⟩ = w.cell? ⟨b, o, none⟩ :=
 World.cell?_of_block (w := w) (a := ⟨b, o, none⟩) h
theorem add_lit' (b o n : Nat) : (⟨b, o, none⟩ : Addr).add n = ⟨b, o + n, none⟩ := Addr.add_lit b o n
structure SlAt {α : Type} (E : Rp α) (F : Nat -> Prop) (w : World) (A : Option Addr) (cap : Nat) (xs : List α) : Prop where
 le : xs.length <= cap
 mx : cap <= maxLen
 nil : A = none -> cap = 0
 el : ∀ i x, xs[i]? = some x -> ∃ b o cs, A = some ⟨b, o, none⟩ /\ F b /\ E.R F w cs x /\ ∀ j c, cs[j]? = some c -> w.cell? ⟨b, o + i * E.n + j, none⟩ = some c
section
variable {α : Type} {E : Rp α} {F F' : Nat -> Prop} {w w' : World} {A : Option Addr} {cap : Nat} {xs : List α}
theorem SlAt.keep (h : SlAt E F w A cap xs) (k : ∀ k, F k -> w'.heap[k]? = w.heap[k]?) : SlAt E F w' A cap xs :=
 ⟨h.le, h.mx, h.nil, fun i x hx => by
  obtain ⟨b, o, cs, h1, h2, h3, h4⟩ := h.el i x hx
  exact ⟨b, o, cs, h1, h2, E.keep h3 k, fun j c hc => by rw [cell_keep (k b h2)]; exact h4 j c hc⟩⟩
theorem SlAt.wide (h : SlAt E F w A cap xs) (k : ∀ k, F k -> F' k) : SlAt E F' w A cap xs :=
 ⟨h.le, h.mx, h.nil, fun i x hx => by
  obtain ⟨b, o, cs, h1, h2, h3, h4⟩ := h.el i x hx
  exact ⟨b, o, cs, h1, k b h2, E.wide h3 k, h4⟩⟩
theorem SlAt.lenle (h : SlAt E F w A cap xs) : xs.length <= 9223372036854775807 /\ xs.length <= cap := ⟨by have := h.le; have := h.mx; unfold maxLen at *; omega, h.le⟩
end
def pSl {α : Type} (E : Rp α) : Rp (List α) where
 n := 1
 R F w cs xs := ∃ A cap, cs = [.slice A xs.length cap] /\ SlAt E F w A cap xs
 len := by rintro F w cs x ⟨A, c, rfl, _⟩; rfl
 keep := by rintro F w w' cs x ⟨A, c, rfl, h⟩ k; exact ⟨A, c, rfl, h.keep k⟩
 wide := by rintro F F' w cs x ⟨A, c, rfl, h⟩ k; exact ⟨A, c, rfl, h.wide k⟩
 one := by rintro F w cs x ⟨A, c, rfl, _⟩ v hv; simp at hv; subst hv; rfl
def Fits (k : IntKind) (n : Int) : Prop := (Lit.int k n).wf = true
def pI (k : IntKind) : Rp Int where
 n := 1
 R _ _ cs x := cs = [.int k x] /\ Fits k x
 len := by rintro F w cs x ⟨rfl, _⟩; rfl
 keep := by rintro F w w' cs x h _; exact h
 wide := by rintro F F' w cs x h _; exact h
 one := by rintro F w cs x ⟨rfl, _⟩ v hv; simp at hv; subst hv; rfl
theorem pI_flat (k : IntKind) : ∀ (F F' : Nat -> Prop) (w : World) cs x, (pI k).R F w cs x -> (pI k).R F' w cs x := fun _ _ _ _ _ h => h
theorem Fits.i64 {n : Int} (h : Fits .i64 n) : -9223372036854775808 <= n /\ n <= 9223372036854775807 := by
 simpa [Fits, Lit.wf, IntKind.min, IntKind.max, IntKind.signed, IntKind.bits] using h
theorem Fits.u8 {n : Int} (h : Fits .u8 n) : 0 <= n /\ n <= 255 := by
 simpa [Fits, Lit.wf, IntKind.min, IntKind.max, IntKind.signed, IntKind.bits] using h
theorem fits_i64 {n : Int} (h : -9223372036854775808 <= n /\ n <= 9223372036854775807) : Fits .i64 n := WalkArith.wf_i64 h
theorem fits_u8 {n : Int} (h : 0 <= n /\ n <= 255) : Fits .u8 n := WalkArith.wf_u8 h
theorem below_drewN {B : Nat} {a w : World} (h : Below B a w) (n : Nat) : Below B a (w.drewN n) := ⟨h.os, h.tape, h.output, h.size, h.block⟩
def Old (w : World) : Nat -> Prop := fun k => k < w.heap.size
theorem drop_cons {α : Type} {xs : List α} {i : Nat} {x : α} (h : xs[i]? = some x) : xs.drop i = x :: xs.drop (i + 1) := by
 obtain ⟨hi, rfl⟩ := List.getElem?_eq_some_iff.1 h
 exact List.drop_eq_getElem_cons hi
theorem get_of_drop {α : Type} {xs : List α} {i : Nat} {x : α} {r : List α} (h : xs.drop i = x :: r) : xs[i]? = some x := by
 have := congrArg (fun l => l[0]?) h
 simpa using this
theorem mem_of_drop {α : Type} {xs : List α} {i : Nat} {x : α} {r : List α} (h : xs.drop i = x :: r) : x ∈ xs := List.mem_of_getElem? (get_of_drop h)
theorem take_of_drop {α : Type} {xs : List α} {i : Nat} {x : α} {r : List α} (h : xs.drop i = x :: r) : xs.take (i + 1) = xs.take i ++ [x] := by
 rw [List.take_add_one, get_of_drop h]; rfl
theorem drop_end {α : Type} {xs : List α} {i : Nat} (h : ¬ i < xs.length) : xs.drop i = [] := List.drop_eq_nil_of_le (by omega)
section
variable {α : Type} {E : Rp α} {F F' : Nat -> Prop} {w w' : World} {A : Option Addr} {cap : Nat} {xs : List α}
theorem SlAt.below (h : SlAt E (Old w) w A cap xs) (hb : Below w.heap.size w w') : SlAt E (Old w) w' A cap xs := h.keep fun k hk => hb.block k hk
theorem SlAt.later (h : SlAt E (Old w) w A cap xs) (hb : Below w.heap.size w w') : SlAt E (Old w') w' A cap xs :=
 (h.below hb).wide fun k hk => by have := hb.size; unfold Old at *; omega
theorem SlAt.get (h : SlAt E F w A cap xs) {i : Nat} (hi : i < xs.length) : ∃ b o cs x, Hid (xs.drop i = x :: xs.drop (i + 1)) /\ A = some ⟨b, o, none⟩ /\ F b /\ E.R F w cs x /\ ∀ j c, cs[j]? = some c -> w.cell? ⟨b, o + i * E.n + j, none⟩ = some c := by
 have hx : xs[i]? = some xs[i] := List.getElem?_eq_getElem hi
 obtain ⟨b, o, cs, h1, h2, h3, h4⟩ := h.el i _ hx
 exact ⟨b, o, cs, _, drop_cons hx, h1, h2, h3, h4⟩
theorem SlAt.getI {k : IntKind} {xs : List Int} (h : SlAt (pI k) F w A cap xs) {i : Nat} (hi : i < xs.length) :
  ∃ b o x, Hid (xs.drop i = x :: xs.drop (i + 1)) /\ A = some ⟨b, o, none⟩ /\ F b /\ w.cell? ⟨b, o + i, none⟩ = some (.int k x) /\ Fits k x := by
 obtain ⟨b, o, cs, x, h0, h1, h2, ⟨rfl, h3⟩, h4⟩ := h.get hi
 exact ⟨b, o, x, h0, h1, h2, by simpa [pI] using h4 0 _ rfl, h3⟩
end
def Blk (w : World) (g : Nat) (t : TypeId) (cs : Array Value) : Prop := w.heap[g]? = some (.cells cs t (0, 0))
section
variable {w w' : World} {g : Nat} {t : TypeId} {cs : Array Value}
theorem Blk.lt (h : Blk w g t cs) : g < w.heap.size := (Array.getElem?_eq_some_iff.1 h).1
theorem Blk.cell (h : Blk w g t cs) (i : Nat) : w.cell? ⟨g, i, none⟩ = cs[i]? := cell_of_row w g i cs t (0, 0) h
theorem Blk.free (h : Blk w g t cs) (i : Nat) : w.frozen? ⟨g, i, none⟩ = false := by
 unfold Blk at h; simp [World.frozen?, h]
theorem Blk.new (w : World) (t : TypeId) (cs : Array Value) : Blk (w.alloc (.cells cs t)) w.heap.size t cs := heap_alloc_new w _
theorem Blk.set (h : Blk w g t cs) (i : Nat) (u : Value) : Blk (w.setCell ⟨g, i, none⟩ u) g t (cs.setIfInBounds i u) := by
 unfold Blk at h ⊢; simp [World.setCell, Array.getElem?_modify, h]
theorem Blk.same (h : Blk w g t cs) (e : w'.heap[g]? = w.heap[g]?) : Blk w' g t cs := e.trans h
theorem Blk.alloc (h : Blk w g t cs) (o : Obj) : Blk (w.alloc o) g t cs := (Below.heap_alloc w o g h.lt).trans h
end
def CellsAre {α : Type} (E : Rp α) (F : Nat -> Prop) (w : World) : List Value -> List α -> Prop
 | cells, [] => cells = []
 | cells, x :: xs => ∃ cs rest, cells = cs ++ rest /\ E.R F w cs x /\ CellsAre E F w rest xs
section
variable {α : Type} {E : Rp α} {F F' : Nat -> Prop} {w w' : World}
theorem CellsAre.keep (k : ∀ k, F k -> w'.heap[k]? = w.heap[k]?) : ∀ {xs : List α} {cells}, CellsAre E F w cells xs -> CellsAre E F w' cells xs
 | [], _, h => h
 | _ :: _, _, ⟨cs, rest, h1, h2, h3⟩ => ⟨cs, rest, h1, E.keep h2 k, CellsAre.keep k h3⟩
theorem CellsAre.wide (k : ∀ k, F k -> F' k) : ∀ {xs : List α} {cells}, CellsAre E F w cells xs -> CellsAre E F' w cells xs
 | [], _, h => h
 | _ :: _, _, ⟨cs, rest, h1, h2, h3⟩ => ⟨cs, rest, h1, E.wide h2 k, CellsAre.wide k h3⟩
theorem CellsAre.append : ∀ {xs ys : List α} {c d}, CellsAre E F w c xs -> CellsAre E F w d ys -> CellsAre E F w (c ++ d) (xs ++ ys)
 | [], _, _, _, h, h' => by cases h; exact h'
 | _ :: _, _, _, _, ⟨cs, rest, h1, h2, h3⟩, h' => ⟨cs, rest ++ _, by rw [h1, List.append_assoc], h2, CellsAre.append h3 h'⟩
theorem CellsAre.one {x : α} {cs} (h : E.R F w cs x) : CellsAre E F w cs [x] := ⟨cs, [], by simp, h, rfl⟩
theorem CellsAre.length : ∀ {xs : List α} {cells}, CellsAre E F w cells xs -> cells.length = xs.length * E.n
 | [], _, h => by cases h; simp
 | x :: xs, _, ⟨cs, rest, h1, h2, h3⟩ => by rw [h1, List.length_append, E.len h2, CellsAre.length h3, List.length_cons, Nat.add_mul]; omega
theorem CellsAre.oneCell : ∀ {xs : List α} {cells}, CellsAre E F w cells xs -> ∀ v ∈ cells, v.oneCell' = true
 | [], _, h, v, hv => by cases h; simp at hv
 | x :: xs, _, ⟨cs, rest, h1, h2, h3⟩, v, hv => by
  rw [h1, List.mem_append] at hv
  rcases hv with hv | hv
  ·exact E.one h2 v hv
  ·exact CellsAre.oneCell h3 v hv
theorem CellsAre.get : ∀ {xs : List α} {cells} {i : Nat} {x : α}, CellsAre E F w cells xs -> xs[i]? = some x -> ∃ cs, E.R F w cs x /\ ∀ j c, cs[j]? = some c -> cells[i * E.n + j]? = some c
 | [], _, i, x, _, hx => by simp at hx
 | y :: xs, _, 0, x, ⟨cs, rest, h1, h2, h3⟩, hx => by
  simp at hx; subst hx
  refine ⟨cs, h2, fun j c hc => ?_⟩
  have hj := (List.getElem?_eq_some_iff.1 hc).1
  rw [h1, Nat.zero_mul, Nat.zero_add, List.getElem?_append_left hj, hc]
 | y :: xs, _, i + 1, x, ⟨cs, rest, h1, h2, h3⟩, hx => by
  obtain ⟨cs', h4, h5⟩ := CellsAre.get h3 (by simpa using hx)
  refine ⟨cs', h4, fun j c hc => ?_⟩
  rw [h1, List.getElem?_append_right (by rw [E.len h2, Nat.add_mul]; omega), E.len h2, Nat.add_mul, show i * E.n + 1 * E.n + j - E.n = i * E.n + j from by omega]
  exact h5 j c hc
end
def Own {α : Type} (E : Rp α) (e : TypeId) (base : Nat) (G : Nat -> Prop) (w : World) (v : Value) (xs : List α) : Prop :=
 ∃ cells, w.ownsRow base e E.n v xs.length cells /\ CellsAre E (fun k => G k /\ k < w.heap.size /\ some k ≠ v.ownBlock) w cells xs
section
variable {α : Type} {E : Rp α} {w w' : World} {e : TypeId} {base : Nat} {G : Nat -> Prop} {v v' : Value} {xs ys : List α}
theorem Own.nil : Own E e base G w (.slice none 0 0) ([] : List α) := ⟨[], ⟨by simp, .inl ⟨rfl, rfl⟩⟩, rfl⟩
theorem Own.empty {w : World} (hb : base <= w.heap.size) : Own E e base G (w.alloc (.cells #[] e)) (.slice (some ⟨w.heap.size, 0, none⟩) 0 0) ([] : List α) :=
 ⟨[], ⟨by simp, .inr ⟨w.heap.size, 0, #[], rfl, hb, heap_alloc_new w _, Nat.le_refl _, Nat.zero_le _, by simp, by simp⟩⟩, rfl⟩
theorem Own.keep (h : Own E e base G w v xs) (hk : ∀ k, k < w.heap.size -> w'.heap[k]? = w.heap[k]?) (hs : w.heap.size <= w'.heap.size) : Own E e base G w' v xs := by
 obtain ⟨cells, ⟨h1, h2⟩, h3⟩ := h
 refine ⟨cells, ⟨h1, ?_⟩, (CellsAre.keep (fun k hF => hk k hF.2.1) h3).wide fun k hF => ⟨hF.1, by omega, hF.2.2⟩⟩
 rcases h2 with h2 | ⟨g, cap, cur, hv, hb, hg, r⟩
 ·exact .inl h2
 ·exact .inr ⟨g, cap, cur, hv, hb, by rw [hk g (Array.getElem?_eq_some_iff.1 hg).1]; exact hg, r⟩
theorem Own.alloc (h : Own E e base G w v xs) (o : Obj) : Own E e base G (w.alloc o) v xs := h.keep (fun k hk => Below.heap_alloc w o k hk) (by simp)
theorem Own.drew (h : Own E e base G w v xs) : Own E e base G w.drew v xs := h.keep (fun _ _ => rfl) (Nat.le_refl _)
theorem Own.drewN (h : Own E e base G w v xs) (n : Nat) : Own E e base G (w.drewN n) v xs := h.keep (fun _ _ => rfl) (Nat.le_refl _)
theorem Own.later (h : Own E e base G w v xs) (hb : Below w.heap.size w w') : Own E e base G w' v xs := h.keep hb.block hb.size
theorem Own.sl (h : Own E e base G w v xs) : ∃ A cap, v = .slice A xs.length cap /\ SlAt E (fun k => (G k ∨ base <= k) /\ k < w.heap.size) w A cap xs := by
 obtain ⟨cells, ⟨h1, h2⟩, h3⟩ := h
 rcases h2 with ⟨hv, h0⟩ | ⟨g, cap, cur, hv, hb, hg, hnc, hcm, hsz, htake⟩
 ·have hx : xs = [] := List.eq_nil_of_length_eq_zero h0
  subst hx
  exact ⟨none, 0, hv, ⟨Nat.le_refl _, Nat.zero_le _, (fun _ => rfl), fun i x hx => by simp at hx⟩⟩
 ·refine ⟨some ⟨g, 0, none⟩, cap, hv, ⟨hnc, hcm, (fun e => by cases e), fun i x hx => ?_⟩⟩
  obtain ⟨cs, h4, h5⟩ := h3.get hx
  refine ⟨g, 0, cs, rfl, ⟨.inr hb, (Array.getElem?_eq_some_iff.1 hg).1⟩, E.wide h4 (fun k hk => ⟨.inl hk.1, hk.2.1⟩), fun j c hc => ?_⟩
  have h6 := h5 j c hc
  rw [<- htake, List.getElem?_take] at h6
  split at h6
  ·rw [cell_of_row w g _ cur e (0, 0) hg, Nat.zero_add]
   simpa using h6
  ·cases h6
theorem Own.fresh (h : Own E e base (base <= ·) w v xs) : ∃ A cap, v = .slice A xs.length cap /\ SlAt E (fun k => base <= k /\ k < w.heap.size) w A cap xs := by
 obtain ⟨A, cap, h1, h2⟩ := h.sl
 exact ⟨A, cap, h1, h2.wide fun k hk => ⟨hk.1.elim id id, hk.2⟩⟩
theorem CellsAre.flat (hE : ∀ (F F' : Nat -> Prop) (w : World) cs x, E.R F w cs x -> E.R F' w cs x) {F F' : Nat -> Prop} : ∀ {xs : List α} {cells}, CellsAre E F w cells xs -> CellsAre E F' w cells xs
 | [], _, h => h
 | _ :: _, _, ⟨cs, rest, h1, h2, h3⟩ => ⟨cs, rest, h1, hE _ _ _ _ _ h2, CellsAre.flat hE h3⟩
theorem Own.flat (hE : ∀ (F F' : Nat -> Prop) (w : World) cs x, E.R F w cs x -> E.R F' w cs x) {G' : Nat -> Prop} (h : Own E e base G w v xs) : Own E e base G' w v xs := by
 obtain ⟨cells, h1, h2⟩ := h; exact ⟨cells, h1, h2.flat hE⟩
theorem Own.lt (h : Own E e base G w v xs) : ∀ k, v.ownBlock = some k -> base <= k /\ k < w.heap.size := by
 obtain ⟨cells, h1, _⟩ := h; exact h1.lt
theorem own_append {cells news : List Value} {F : Nat -> Prop} (h3 : CellsAre E (fun k => G k /\ k < w.heap.size /\ some k ≠ v.ownBlock) w cells xs) (h4 : CellsAre E F w news ys) (hF : ∀ k, F k -> G k /\ k < w.heap.size /\ some k ≠ v.ownBlock)
  (hown : w'.ownsRow base e E.n v' (xs.length + ys.length) (cells ++ news)) (hg : w.grownBy w' v.ownBlock) (hat : v'.ownBlock = v.ownBlock ∨ v'.ownBlock = some w.heap.size) : Own E e base G w' v' (xs ++ ys) := by
 refine ⟨cells ++ news, by rw [List.length_append]; exact hown, ?_⟩
 have h5 := CellsAre.append h3 (h4.wide hF)
 refine (CellsAre.keep (fun k hk => hg.block k hk.2.1 hk.2.2) h5).wide fun k hk => ⟨hk.1, Nat.lt_of_lt_of_le hk.2.1 hg.size, ?_⟩
 rcases hat with hat | hat
 ·rw [hat]; exact hk.2.2
 ·rw [hat]; intro he; cases he; exact Nat.lt_irrefl _ hk.2.1
end
section
variable {P : Program} {α : Type} {E : Rp α}
theorem wpList_app {ops : Array Oper} {rest : List Oper} {o : Oper} {a : Act} {Q : Exit -> Act -> World -> Prop} {w : World} {base : Nat} {G : Nat -> Prop} {v : Value} {xs : List α} (t e : TypeId) (z : Value) (bytes : Nat) (hgd : o.guard = none) (s x : Operand)
  (ho : o.op = .call { callee := .builtin .append, args := #[s, x], argTypes := #[t, t] })
  (ht : P.underlying t = some (.slice e)) (hinfo : (P.info? e).map (fun i => (i.zero, i.size, i.bytes)) = some (some z, E.n, bytes)) (hzs : z.cells.size = E.n) (hsz : 0 < E.n)
  (hs : a.eval s = v) (hown : Own E e base G w v xs)
  (ad : Addr) (m c : Nat) (hx : a.eval x = .slice (some ad) m c) (news : List Value) (ys : List α) (hm : ys.length = m) (F : Nat -> Prop) (hnew : CellsAre E F w news ys) (hnews : ∀ j u, news[j]? = some u -> w.cell? (ad.add j) = some u)
  (hF : ∀ k, F k -> G k /\ k < w.heap.size /\ some k ≠ v.ownBlock) (hlen : xs.length + ys.length <= 1073741824) (hb : bytes <= 131072) (hbase : base <= w.heap.size)
  (h : ∀ v' w', Own E e base G w' v' (xs ++ ys) -> w.grownBy w' v.ownBlock -> (v'.ownBlock = v.ownBlock ∨ v'.ownBlock = some w.heap.size) -> wpList P ops Q rest (a.put o.dst v') w') : wpList P ops Q (o :: rest) a w := by
 obtain ⟨i, hi, hz, h1, h2⟩ := info_parts hinfo
 obtain ⟨cells, h3, h4⟩ := hown
 subst hm
 have hby : (xs.length + ys.length) * bytes <= 140737488355328 := by
  have := Nat.mul_le_mul hlen hb
  omega
 exact wpList_append_own_at (P := P) w hgd s x t ho base e i z E.n bytes ht hi hz h1 h2 hzs hsz v xs.length cells hs h3 ad ys.length c news hx hnew.length hnews hnew.oneCell (by unfold maxLen; omega) hby hbase
  (fun v' w' h5 h6 _ h7 => h v' w' (own_append h4 hnew hF h5 h6 h7) h6 h7)
theorem cells_of {F : Nat -> Prop} {w : World} {b o : Nat} : ∀ (ys : List α) (i0 : Nat), (∀ i x, ys[i]? = some x -> ∃ cs, E.R F w cs x /\ ∀ j c, cs[j]? = some c -> w.cell? ⟨b, o + (i0 + i) * E.n + j, none⟩ = some c) ->
  ∃ news, CellsAre E F w news ys /\ ∀ j u, news[j]? = some u -> w.cell? ⟨b, o + i0 * E.n + j, none⟩ = some u
 | [], _, _ => ⟨[], rfl, fun j u hu => by simp at hu⟩
 | y :: ys, i0, h => by
  obtain ⟨cs, h1, h2⟩ := h 0 y (by simp)
  obtain ⟨rest, h3, h4⟩ := cells_of ys (i0 + 1) fun i x hx => by
   obtain ⟨cs, h5, h6⟩ := h (i + 1) x (by simpa using hx)
   exact ⟨cs, h5, fun j c hc => by rw [show i0 + 1 + i = i0 + (i + 1) from by omega]; exact h6 j c hc⟩
  refine ⟨cs ++ rest, ⟨cs, rest, rfl, h1, h3⟩, fun j u hu => ?_⟩
  by_cases hj : j < cs.length
  ·rw [List.getElem?_append_left hj] at hu
   simpa using h2 j u hu
  ·rw [List.getElem?_append_right (by omega)] at hu
   have h7 := h4 _ _ hu
   rw [E.len h1] at h7
   rw [E.len h1] at hj
   rw [<- h7, Nat.add_mul, Nat.one_mul]
   congr 2; omega
theorem SlAt.cells {F : Nat -> Prop} {w : World} {ad : Addr} {cap : Nat} {ys : List α} (h : SlAt E F w (some ad) cap ys) : ∃ news, CellsAre E F w news ys /\ ∀ j u, news[j]? = some u -> w.cell? (ad.add j) = some u := by
 cases ys with
 | nil => exact ⟨[], rfl, fun j u hu => by simp at hu⟩
 | cons y ys =>
  obtain ⟨b, o, _, h1, _⟩ := h.el 0 y (by simp)
  cases h1
  obtain ⟨news, h2, h3⟩ := cells_of (E := E) (F := F) (w := w) (b := b) (o := o) (y :: ys) 0 fun i x hx => by
   obtain ⟨b', o', cs, h1, _, h2, h3⟩ := h.el i x hx
   cases h1
   exact ⟨cs, h2, fun j c hc => by rw [Nat.zero_add]; exact h3 j c hc⟩
  exact ⟨news, h2, fun j u hu => by rw [add_lit']; simpa using h3 j u hu⟩
theorem wpList_app_sl {ops : Array Oper} {rest : List Oper} {o : Oper} {a : Act} {Q : Exit -> Act -> World -> Prop} {w : World} {base : Nat} {G : Nat -> Prop} {v : Value} {xs : List α} (t e : TypeId) (z : Value) (bytes : Nat) (hgd : o.guard = none) (s x : Operand)
  (ho : o.op = .call { callee := .builtin .append, args := #[s, x], argTypes := #[t, t] })
  (ht : P.underlying t = some (.slice e)) (hinfo : (P.info? e).map (fun i => (i.zero, i.size, i.bytes)) = some (some z, E.n, bytes)) (hzs : z.cells.size = E.n) (hsz : 0 < E.n)
  (hs : a.eval s = v) (hown : Own E e base G w v xs) (A : Option Addr) (c : Nat) (ys : List α) (hx : a.eval x = .slice A ys.length c) (F : Nat -> Prop) (hsl : SlAt E F w A c ys)
  (hF : ∀ k, F k -> G k /\ k < w.heap.size /\ some k ≠ v.ownBlock) (hlen : xs.length + ys.length <= 1073741824) (hb : bytes <= 131072) (hbase : base <= w.heap.size)
  (h : ∀ v' w', Own E e base G w' v' (xs ++ ys) -> w.grownBy w' v.ownBlock -> (v'.ownBlock = v.ownBlock ∨ v'.ownBlock = some w.heap.size) -> wpList P ops Q rest (a.put o.dst v') w') : wpList P ops Q (o :: rest) a w := by
 cases A with
 | some ad =>
  obtain ⟨news, h1, h2⟩ := hsl.cells
  exact wpList_app t e z bytes hgd s x ho ht hinfo hzs hsz hs hown ad ys.length c hx news ys rfl F h1 h2 hF hlen hb hbase h
 | none =>
  have hc := hsl.nil rfl
  have hl := hsl.le
  have hy : ys = [] := List.eq_nil_of_length_eq_zero (by omega)
  subst hy
  subst hc
  obtain ⟨i, hi, hz, h1, h2⟩ := info_parts hinfo
  have hown' := hown
  obtain ⟨cells, h3, h4⟩ := hown
  refine wpList_plain hgd fun K hK => ?_
  have hrun := run_append_owned_none (P := P) w base t o.type e i E.n ht hi v xs.length cells h3
  unfold Oper.wp
  simp [execOp, ho, resolve, invoke, builtin, hs, hx, hrun, Result.andThen]
  exact hK _ _ (h v w (by simpa using hown') (World.grownBy.refl w _) (.inl rfl))
theorem below_app {B base : Nat} {G : Nat -> Prop} {a w w' : World} {e : TypeId} {v : Value} {xs : List α} (h : Below B a w) (hg : w.grownBy w' v.ownBlock) (hown : Own E e base G w v xs) (hB : B <= base) (hs : base <= w.heap.size) : Below B a w' :=
 h.grown hg (Nat.le_trans hB hs) fun k hk => Nat.le_trans hB (hown.lt k hk).1
end
def cellsN (n : Nat) (f : Nat -> Int) : Array Value := ((List.range n).map fun i => Value.int .i64 (f i)).toArray
theorem cellsN_get (f : Nat -> Int) {n k : Nat} (hk : k < n) : (cellsN n f)[k]? = some (.int .i64 (f k)) := by
 unfold cellsN; simp [hk]
theorem cellsN_made (n : Nat) : madeCells #[Value.int .i64 0] n = cellsN n (fun _ => 0) := by
 unfold madeCells cellsN
 apply Array.ext_getElem?
 intro i
 by_cases hi : i < n <;> simp [hi, Nat.mod_one]
theorem sl_of_blk {w : World} {g n : Nat} {t : TypeId} {f : Nat -> Int} {F : Nat -> Prop} (h : Blk w g t (cellsN n f)) (hF : F g) (hn : n <= maxLen) (hf : ∀ i, i < n -> Fits .i64 (f i)) :
  SlAt (pI .i64) F w (some ⟨g, 0, none⟩) n ((List.range n).map f) := by
 refine ⟨by simp, hn, (fun e => by cases e), fun i x hx => ?_⟩
 have hi : i < n := by
  have := (List.getElem?_eq_some_iff.1 hx).1
  simpa using this
 have hxi : x = f i := by
  rw [List.getElem?_map, List.getElem?_range hi] at hx
  simpa using hx.symm
 subst hxi
 refine ⟨g, 0, _, rfl, hF, ⟨rfl, hf i hi⟩, fun j c hc => ?_⟩
 match j, hc with
 | 0, hc =>
  simp at hc; subst hc
  rw [h.cell]
  simpa [pI] using cellsN_get f hi
def Room (n : Nat) : Prop := n < 1073741824
theorem room_of {n : Nat} (h : n <= 1000000) : Room n := by unfold Room; omega
theorem fold_set : ∀ (l : List Value) (k : Nat) (z : Array Value), z.size = k + l.length -> ((l.zipIdx k).foldl (fun cs (p : Value × Nat) => cs.setIfInBounds p.2 p.1) z).toList = z.toList.take k ++ l
 | [], k, z, h => by
  have : z.toList.length = k := by simpa using h
  simp [List.take_of_length_le (Nat.le_of_eq this)]
 | v :: l, k, z, h => by
  rw [List.zipIdx_cons, List.foldl_cons, fold_set l (k + 1) _ (by simp at h ⊢; omega)]
  have hk : k < z.toList.length := by simp at h ⊢; omega
  simp only [Array.toList_setIfInBounds]
  rw [List.take_add_one, List.take_set_of_le (Nat.le_refl k), List.getElem?_set_self hk]
  simp
theorem fill_one {z c : Array Value} {s : Nat} (hz : z.size = s) (hc : c.size = s) (v : Value) (hv : v.cells = c) : Instr.fill (fun i => some (i * s, s)) z [(0, v)] = some c := by
 have h0 := fold_set c.toList 0 z (by simp [hz, hc])
 simp only [List.take_zero, List.nil_append] at h0
 have h1 : c.zipIdx.foldl (fun cs (p : Value × Nat) => cs.setIfInBounds p.2 p.1) z = c := by
  apply Array.ext'
  rw [<- h0, <- Array.foldl_toList, Array.toList_zipIdx]
 have h2 : ¬ (c.size ≠ s ∨ 0 * s + c.size > z.size) := by simp only [Nat.zero_mul, Nat.zero_add]; omega
 unfold Instr.fill
 simp only [hv]
 rw [if_neg (by simpa using h2)]
 unfold Instr.fill
 congr 1
 refine Eq.trans ?_ h1
 congr 1
 funext cs p
 simp
theorem run_buildSlice1 {P : Program} {t e : TypeId} {z : Value} {size bytes : Nat} (ht : P.underlying t = some (.slice e)) (hinfo : (P.info? e).map (fun i => (i.zero, i.size, i.bytes)) = some (some z, size, bytes)) (hzs : z.cells.size = size) (hsz : 0 < size) (hbd : size <= 16777216)
  (v : Value) (hv : v.cells.size = size) (w : World) : (Instr.buildSlice t 1 #[(0, v)]).run P w = .ok (.slice (some ⟨w.heap.size, 0, none⟩) 1 1) (w.alloc (.cells v.cells e)) := by
 obtain ⟨i, hi, hz, h1, _⟩ := info_parts hinfo
 have hfill := fill_one (z := (Array.range size).map (z.cells[· % z.cells.size]!)) (c := v.cells) (s := size) (by simp) hv v rfl
 subst h1
 unfold Instr.buildSlice
 simp only [Sem.run_bind, run_underlying ht, Result.andThen_ok, sizeOf, typeInfo]
 simp [hi, zeroValue, typeInfo, hz, show ¬ (16777216 < i.size) from by omega, show i.size ≠ 0 from by omega, hfill, newRow]
section
variable {P : Program} {α : Type} {E : Rp α}
theorem wpList_push {ops : Array Oper} {rest : List Oper} {o1 o2 : Oper} {a : Act} {Q : Exit -> Act -> World -> Prop} {w : World} {base : Nat} {G : Nat -> Prop} {v : Value} {xs : List α} (t e : TypeId) (z : Value) (bytes : Nat) (tmp : Nat) (s xo : Operand)
  (hg1 : o1.guard = none) (hg2 : o2.guard = none) (hd1 : o1.dst = some tmp) (ho1 : o1.op = .buildSlice t 1 #[(0, xo)])
  (ho2 : o2.op = .call { callee := .builtin .append, args := #[s, .tmp tmp], argTypes := #[t, t] })
  (ht : P.underlying t = some (.slice e)) (hinfo : (P.info? e).map (fun i => (i.zero, i.size, i.bytes)) = some (some z, E.n, bytes)) (hzs : z.cells.size = E.n) (hsz : 0 < E.n)
  (hs : ∀ u, (a.put (some tmp) u).eval s = v) (ht2 : ∀ u, (a.put (some tmp) u).eval (.tmp tmp) = u) (hown : Own E e base G w v xs)
  (u : Value) (hu : a.eval xo = u) (x : α) (F : Nat -> Prop) (hR : E.R F w u.cells.toList x)
  (hF : ∀ k, F k -> G k /\ k < w.heap.size /\ some k ≠ v.ownBlock) (hlen : Room xs.length) (hb : bytes <= 131072 /\ E.n <= 16777216) (hbase : base <= w.heap.size)
  (h : ∀ A' c' w', Own E e base G w' (.slice A' (xs.length + 1) c') (xs ++ [x]) -> Below base w w' -> (∀ k, k < w.heap.size -> some k ≠ v.ownBlock -> w'.heap[k]? = w.heap[k]?) ->
   wpList P ops Q rest ((a.put (some tmp) (.slice (some ⟨w.heap.size, 0, none⟩) 1 1)).put o2.dst (.slice A' (xs.length + 1) c')) w') : wpList P ops Q (o1 :: o2 :: rest) a w := by
 have hcl := E.len hR
 have hrun := run_buildSlice1 (P := P) (t := t) (e := e) (z := z) (size := E.n) (bytes := bytes) ht hinfo hzs hsz hb.2 u (by simpa using hcl) w
 refine wpList_plain hg1 fun K hK => ?_
 unfold Oper.wp
 rw [show execOp a.eval o1 = do return .value (<- Instr.buildSlice t 1 #[(0, u)]) from by simp [execOp, ho1, hu]]
 simp only [Sem.run_bind, hrun, Result.andThen_ok, Sem.run_pure, Oper.upon_value, hd1]
 refine hK _ _ ?_
 have hkp : ∀ k, k < w.heap.size -> (w.alloc (.cells u.cells e)).heap[k]? = w.heap[k]? := fun k hk => Below.heap_alloc _ _ _ hk
 refine wpList_app (P := P) (E := E) (base := base) (G := G) (v := v) (xs := xs) t e z bytes hg2 s (.tmp tmp) ho2 ht hinfo hzs hsz (hs _) (hown.alloc _) ⟨w.heap.size, 0, none⟩ 1 1 (ht2 _) u.cells.toList [x] rfl F
  (CellsAre.one (E.keep hR fun k hk => hkp k (hF k hk).2.1)) (fun j c hc => ?_) (fun k hk => ⟨(hF k hk).1, by simp; have := (hF k hk).2.1; omega, (hF k hk).2.2⟩) (by unfold Room at hlen; simp; omega) hb.1 (by simp; omega) (fun v' w' h1 h2 h3 => ?_)
 ·rw [add_lit', Nat.zero_add, (Blk.new w e u.cells).cell]; simpa using hc
 ·obtain ⟨cells, ⟨hl, hv⟩, hc⟩ := h1
  have hform : ∃ A' c', v' = .slice A' (xs.length + 1) c' := by
   rcases hv with ⟨_, h0⟩ | ⟨g, cap, cur, hv, _⟩
   ·simp at h0
   ·rw [List.length_append] at hv; exact ⟨_, _, hv⟩
  obtain ⟨A', c', rfl⟩ := hform
  refine h A' c' w' ⟨cells, ⟨hl, hv⟩, hc⟩ ?_ fun k hk hne => (h2.block k (by simp; omega) hne).trans (hkp k hk)
  refine below_app ((Below.refl base w).alloc hbase _) h2 (hown.alloc _) (Nat.le_refl _) (by simp; omega)
theorem wpList_cat {ops : Array Oper} {rest : List Oper} {o : Oper} {a : Act} {Q : Exit -> Act -> World -> Prop} {w : World} {base : Nat} {G : Nat -> Prop} {v : Value} {xs : List α} (t e : TypeId) (z : Value) (bytes : Nat) (s x : Operand) (hgd : o.guard = none)
  (ho : o.op = .call { callee := .builtin .append, args := #[s, x], argTypes := #[t, t] })
  (ht : P.underlying t = some (.slice e)) (hinfo : (P.info? e).map (fun i => (i.zero, i.size, i.bytes)) = some (some z, E.n, bytes)) (hzs : z.cells.size = E.n) (hsz : 0 < E.n)
  (hs : a.eval s = v) (hown : Own E e base G w v xs) (A : Option Addr) (c : Nat) (ys : List α) (hx : a.eval x = .slice A ys.length c) (F : Nat -> Prop) (hsl : SlAt E F w A c ys)
  (hF : ∀ k, F k -> G k /\ k < w.heap.size /\ some k ≠ v.ownBlock) (n : Nat) (hn : (xs ++ ys).length = n) (hlen : Room n) (hb : bytes <= 131072) (hbase : base <= w.heap.size)
  (h : ∀ A' c' w', Own E e base G w' (.slice A' n c') (xs ++ ys) -> Below base w w' -> (∀ k, k < w.heap.size -> some k ≠ v.ownBlock -> w'.heap[k]? = w.heap[k]?) -> wpList P ops Q rest (a.put o.dst (.slice A' n c')) w') : wpList P ops Q (o :: rest) a w := by
 refine wpList_app_sl t e z bytes hgd s x ho ht hinfo hzs hsz hs hown A c ys hx F hsl hF (by rw [<- List.length_append, hn]; exact Nat.le_of_lt hlen) hb hbase fun v' w' h1 h2 h3 => ?_
 obtain ⟨cells, ⟨hl, hv⟩, hc⟩ := h1
 have hform : ∃ A' c', v' = .slice A' n c' := by
  rcases hv with ⟨hv, h0⟩ | ⟨g, cap, cur, hv, _⟩
  ·rw [hn] at h0; subst h0; exact ⟨_, _, hv⟩
  ·rw [hn] at hv; exact ⟨_, _, hv⟩
 obtain ⟨A', c', rfl⟩ := hform
 exact h A' c' w' ⟨cells, ⟨hl, hv⟩, hc⟩ (below_app (Below.refl base w) h2 hown (Nat.le_refl _) hbase) h2.block
end
section
variable {P : Program} {α : Type} {E : Rp α}
theorem sl_boxed {w : World} {F : Nat -> Prop} {u : Value} {x : α} {e : TypeId} (hR : E.R F w u.cells.toList x) (hF : ∀ k, F k -> k < w.heap.size) : SlAt E (fun k => F k ∨ k = w.heap.size) (w.alloc (.cells u.cells e)) (some ⟨w.heap.size, 0, none⟩) 1 [x] := by
 refine ⟨Nat.le_refl _, by unfold maxLen; omega, (fun he => by cases he), fun i y hy => ?_⟩
 have hi : i = 0 := by have := (List.getElem?_eq_some_iff.1 hy).1; simpa using this
 subst hi
 simp at hy; subst hy
 refine ⟨w.heap.size, 0, u.cells.toList, rfl, .inr rfl, E.wide (E.keep hR fun k hk => Below.heap_alloc _ _ _ (hF k hk)) (fun k hk => .inl hk), fun j c hc => ?_⟩
 rw [Nat.zero_mul, Nat.zero_add, (Blk.new w e u.cells).cell]; simpa using hc
end
theorem run_copyAll {P : Program} {w : World} {dT sT ty elem : TypeId} {size n g : Nat} {t : TypeId} {cur : Array Value} (hu : P.underlying dT = some (.slice elem)) (hs : (P.info? elem).map (·.size) = some size)
  (hb : Blk w g t cur) (hcs : cur.size = n * size) (ad : Addr) (c : Nat) (cs : List Value) (hl : cs.length = n * size) (hsrc : ∀ j v, cs[j]? = some v -> w.cell? (ad.add j) = some v) (h1 : ∀ v ∈ cs, v.oneCell' = true) :
  (Builtin.copy_ #[dT, sT] ty #[.slice (some ⟨g, 0, none⟩) n n, .slice (some ad) n c]).run P w = .ok (goInt n) (w.setRow g cs.toArray) := by
 obtain ⟨i, hi, rfl⟩ := Option.map_eq_some_iff.1 hs
 have hf := run_firstCells_some (P := P) w i.size n ad n c cs hl hsrc
 have hst := run_storeCells_at P g 0 t cs 0 cur w hb (by simp; omega) h1
 have hlen : cur.toList.length = cs.length := by simp; omega
 simp only [Nat.add_zero, Nat.zero_add, List.take_zero, List.nil_append, List.drop_of_length_le (Nat.le_of_eq hlen), List.append_nil] at hst
 simp [Builtin.copy_, run_underlying hu, Builtin.lenOf, sizeOf, typeInfo, hi, hf, hst]
section
variable {P : Program} {α : Type} {E : Rp α}
theorem wpList_copyAll {ops : Array Oper} {rest : List Oper} {o : Oper} {a : Act} {Q : Exit -> Act -> World -> Prop} {w : World} (dT elem : TypeId) (d s : Operand) (hgd : o.guard = none)
  (ho : o.op = .call { callee := .builtin .copy, args := #[d, s], argTypes := #[dT, dT] }) (hu : P.underlying dT = some (.slice elem)) (hs : (P.info? elem).map (·.size) = some E.n)
  (n g : Nat) (t : TypeId) (cur : Array Value) (hd : a.eval d = .slice (some ⟨g, 0, none⟩) n n) (hb : Blk w g t cur) (hcs : cur.size = n * E.n) (A : Option Addr) (c : Nat) (ys : List α) (hy : a.eval s = .slice A ys.length c) (hn : ys.length = n)
  (F : Nat -> Prop) (hsl : SlAt E F w A c ys) (hF : ∀ k, F k -> k ≠ g) (B : Nat) (w0 : World) (hB : Below B w0 w) (hBg : B <= g)
  (h : ∀ w' cells, Hid (Blk w' g t cells.toArray) -> Hid (CellsAre E F w' cells ys) -> Below B w0 w' -> Hid (∀ k, k ≠ g -> w'.heap[k]? = w.heap[k]?) -> w'.heap.size = w.heap.size -> wpList P ops Q rest (a.put o.dst (.int .i64 (n : Int))) w') : wpList P ops Q (o :: rest) a w := by
 subst hn
 cases A with
 | some ad =>
  obtain ⟨news, h1, h2⟩ := hsl.cells
  have hrun := run_copyAll (P := P) (dT := dT) (sT := dT) (ty := o.type) hu hs hb hcs ad c news h1.length h2 h1.oneCell
  refine wpList_plain hgd fun K hK => ?_
  unfold Oper.wp
  simp [execOp, ho, resolve, invoke, builtin, hd, hy, hrun, Result.andThen]
  have hk : ∀ k, k ≠ g -> (w.setRow g news.toArray).heap[k]? = w.heap[k]? := fun k hk => by
   unfold World.setRow; rw [Array.getElem?_modify, if_neg (Ne.symm hk)]
  refine hK _ _ (h _ news (setRow_heap w g _ _ t _ hb) (h1.keep fun k hkF => hk k (hF k hkF)) ?_ hk (by simp [World.setRow]))
  exact hB.trans ⟨rfl, rfl, rfl, by simp [World.setRow], fun k hkB => hk k (by omega)⟩
 | none =>
  have hc := hsl.nil rfl
  have hl := hsl.le
  have hy0 : ys = [] := List.eq_nil_of_length_eq_zero (by omega)
  subst hy0
  subst hc
  obtain ⟨i, hi, hsz⟩ := Option.map_eq_some_iff.1 hs
  have hcur : cur = #[] := Array.eq_empty_of_size_eq_zero (by simpa using hcs)
  subst hcur
  have hrun : (Builtin.copy_ #[dT, dT] o.type #[.slice (some ⟨g, 0, none⟩) 0 0, .slice none 0 0]).run P w = .ok (goInt 0) w := by
   simp [Builtin.copy_, run_underlying hu, Builtin.lenOf, Builtin.firstCells, sizeOf, typeInfo, hi, storeCells]
  refine wpList_plain hgd fun K hK => ?_
  unfold Oper.wp
  simp only [List.length_nil] at hd hy
  simp [execOp, ho, resolve, invoke, builtin, hd, hy, hrun, Result.andThen]
  exact hK _ _ (h w [] hb rfl hB (fun _ _ => rfl) rfl)
end
theorem cellsAre_idx {α : Type} {E : Rp α} {F : Nat -> Prop} {w : World} : ∀ {xs : List α} {cells : List Value}, cells.length = xs.length * E.n -> (∀ i x, xs[i]? = some x -> ∃ cs, E.R F w cs x /\ ∀ j c, cs[j]? = some c -> cells[i * E.n + j]? = some c) -> CellsAre E F w cells xs
 | [], cells, hl, _ => List.eq_nil_of_length_eq_zero (by simpa using hl)
 | x :: xs, cells, hl, h => by
  obtain ⟨cs, h1, h2⟩ := h 0 x (by simp)
  have hn := E.len h1
  have hl' : cells.length = xs.length * E.n + E.n := by rw [hl, List.length_cons, Nat.add_mul, Nat.one_mul]
  refine ⟨cs, cells.drop E.n, ?_, h1, cellsAre_idx (by rw [List.length_drop]; omega) fun i y hy => ?_⟩
  ·have : cells.take E.n = cs := by
    apply List.ext_getElem?
    intro j
    rw [List.getElem?_take]
    by_cases hj : j < E.n
    ·rw [if_pos hj]
     have hjc : cs[j]? = some (cs[j]'(by omega)) := List.getElem?_eq_getElem _
     have := h2 j _ hjc
     rw [Nat.zero_mul, Nat.zero_add] at this
     rw [this, hjc]
    ·rw [if_neg hj, List.getElem?_eq_none (by omega)]
   rw [<- this, List.take_append_drop]
  ·obtain ⟨cs', h3, h4⟩ := h (i + 1) y (by simpa using hy)
   refine ⟨cs', h3, fun j c hc => ?_⟩
   have := h4 j c hc
   rw [List.getElem?_drop, <- this]
   congr 1
   rw [Nat.add_mul]; omega
def Unf (w : World) (k : Nat) : Prop := ∀ o, w.frozen? ⟨k, o, none⟩ = false
theorem unf_same {w w' : World} {k : Nat} (h : Unf w k) (e : w'.heap[k]? = w.heap[k]?) : Unf w' k := fun o => (World.frozen?_of_block (w := w) (a := ⟨k, o, none⟩) e).trans (h o)
theorem unf_blk {w : World} {g : Nat} {t : TypeId} {cs : Array Value} (h : Blk w g t cs) : Unf w g := fun o => h.free o
theorem own_unf {α : Type} {E : Rp α} {e : TypeId} {base : Nat} {G : Nat -> Prop} {w : World} {a : Addr} {n c : Nat} {xs : List α} (h : Own E e base G w (.slice (some a) n c) xs) : Unf w a.block := by
 obtain ⟨cells, ⟨_, h2⟩, _⟩ := h
 rcases h2 with ⟨hv, _⟩ | ⟨g, cap, cur, hv, _, hg, _⟩
 ·cases hv
 ·cases hv; exact unf_blk (t := e) (cs := cur) hg
theorem run_make_rowN {P : Program} {t e : TypeId} {z : Value} {size bytes : Nat} (ht : P.underlying t = some (.slice e)) (hinfo : (P.info? e).map (fun i => (i.zero, i.size, i.bytes)) = some (some z, size, bytes))
  (n : Nat) (hbytes : bytes * n <= 281474976710656) (h63 : n <= 9223372036854775807) (w : World) :
  (Instr.makeSlice t (.int .i64 (n : Int)) (.int .i64 (n : Int))).run P w = .ok (.slice (some ⟨w.heap.size, 0, none⟩) n n) (w.alloc (.cells (madeCells z.cells (n * size)) e)) := by
 obtain ⟨i, hi, hz, h1, h2⟩ := info_parts hinfo
 subst h1
 have hb : (i.bytes : Int) * (n : Int) <= 281474976710656 := by
  have h : ((i.bytes * n : Nat) : Int) <= 281474976710656 := by rw [h2]; omega
  rwa [Int.natCast_mul] at h
 have hr := run_make (P := P) w t e i z ht hi hz .i64 .i64 n n (by omega) (by omega) hb (by omega)
 simp only [Int.toNat_natCast] at hr
 exact hr
theorem ret_bool {a b : Bool} (h : a = b) : Ending.returned (.bool a) = .returned (.bool b) := by rw [h]
theorem ret_int {k : IntKind} {a b : Int} (h : a = b) : Ending.returned (.int k a) = .returned (.int k b) := by rw [h]
def Opens (P : Program) (t : TypeId) {α : Type} (E : Rp α) : Prop :=
 ∀ (H : Type) (enc : TypeId × Value -> H) (w : World) (fuel : Nat) (cs : List Value) (x : DataW H × List MemPlace), DataW.trod enc P w 0 (fun _ => true) true fuel t cs = some x -> ∃ y, E.R (Old w) w cs y
theorem opens_int {P : Program} {t : TypeId} {k : IntKind} (ht : P.underlying t = some (.int k)) : Opens P t (pI k) := by
 intro H enc w fuel cs x h
 obtain ⟨n, rfl, _, hw⟩ := DataW.trod_int ht h
 exact ⟨n, rfl, hw⟩
theorem opens_slice {P : Program} {t e : TypeId} {α : Type} {E : Rp α} (ht : P.underlying t = some (.slice e)) (hs : P.cellsOf e = E.n) (hp : 0 < E.n) (hE : Opens P e E) : Opens P t (pSl E) := by
 classical
 intro H enc w fuel cs x h
 rcases DataW.trod_slice ht h with ⟨rfl, rfl⟩ | ⟨a, len, cap, elems, rest, n, rfl, rfl, rfl, _, hl, hm, hlen, hel, _⟩
 ·exact ⟨[], none, 0, rfl, ⟨Nat.le_refl _, Nat.zero_le _, (fun _ => rfl), fun i x hx => by simp at hx⟩⟩
 ·have each : ∀ i, i < len -> ∃ y : α, ∃ cs, E.R (Old w) w cs y /\ (a.add (i * E.n)).block < w.heap.size /\ ∀ j c, cs[j]? = some c -> w.cell? ((a.add (i * E.n)).add j) = some c := by
   intro i hi
   have h1 := hel i hi
   rw [List.getElem?_eq_getElem (by omega), Option.bind_eq_some_iff] at h1
   obtain ⟨cs', h2, h3⟩ := h1
   obtain ⟨y, hy⟩ := hE H enc w n cs' _ h3
   obtain ⟨_, h4, h5⟩ := World.cells?_some h2
   have hblk := World.cells?_block h2 (by omega)
   rw [hs] at hblk h4 h5
   refine ⟨y, cs', hy, hblk, fun j c hc => ?_⟩
   have hj : j < cs'.length := (List.getElem?_eq_some_iff.1 hc).1
   rw [h5 j (by omega), hc]
  rcases Nat.eq_zero_or_pos len with h0 | h0
  ·subst h0
   exact ⟨[], some a, cap, rfl, ⟨Nat.zero_le _, hm, (fun e => by cases e), fun i x hx => by simp at hx⟩⟩
  ·obtain ⟨y0, cs0, hy0, hb0, hc0⟩ := each 0 h0
   have hl0 := E.len hy0
   have hspot : a.spot = none := by
    have := hc0 0 cs0[0] (List.getElem?_eq_getElem (by omega))
    rw [Nat.zero_mul, Addr.add_zero', Addr.add_zero'] at this
    exact World.cell?_spot this
   obtain ⟨b, o, s⟩ := a
   subst hspot
   let f : Nat -> α := fun i => if hi : i < len then Classical.choose (each i hi) else y0
   refine ⟨(List.range len).map f, some ⟨b, o, none⟩, cap, by simp, ⟨by simpa using hl, hm, (fun e => by cases e), fun i x hx => ?_⟩⟩
   have hi : i < len := by
    have := (List.getElem?_eq_some_iff.1 hx).1
    simpa using this
   have hfx : x = Classical.choose (each i hi) := by
    rw [List.getElem?_map, List.getElem?_range hi] at hx
    simp only [Option.map_some, Option.some.injEq] at hx
    rw [<- hx]; simp only [f, dif_pos hi]
   obtain ⟨cs, h1, h2, h3⟩ := Classical.choose_spec (each i hi)
   rw [<- hfx] at h1
   simp only [add_lit'] at h2 h3
   exact ⟨b, o, cs, rfl, h2, h1, h3⟩
def BoolPost (b : Bool) (w : World) (e : Ending) (w' : World) : Prop := e = .returned (.bool b) /\ Below w.heap.size w w'
def IntPost (x : Int) (w : World) (e : Ending) (w' : World) : Prop := e = .returned (.int .i64 x) /\ Below w.heap.size w w'
def U64Post (x : Int) (w : World) (e : Ending) (w' : World) : Prop := e = .returned (.int .u64 x) /\ Below w.heap.size w w'
def PairPost (x : Int × Int) (w : World) (e : Ending) (w' : World) : Prop := e = .returned (.tuple #[.int .i64 x.1, .int .i64 x.2]) /\ Below w.heap.size w w'
theorem ret_u64 {a b : Int} (h : a = b) : Ending.returned (.int .u64 a) = .returned (.int .u64 b) := by rw [h]
end
section
open Go.RowKit
structure Mod where
 name : Int
 args : List Int
 deriving DecidableEq, Inhabited
structure Frm where
 const : Int
 coefs : List Int
 deriving DecidableEq, Inhabited
structure Shp where
 name : Int
 args : List Frm
 deriving DecidableEq, Inhabited
structure Rul where
 name : Int
 arity : Int
 left : Int
 right : Int
 guards : List Frm
 weight : Int
 out : List Shp
 deriving DecidableEq, Inhabited
def pMod : Rp Mod where
 n := 2
 R F w cs m := ∃ A c, cs = [.int .u8 m.name, .slice A m.args.length c] /\ Fits .u8 m.name /\ SlAt (pI .i64) F w A c m.args
 len := by rintro F w cs x ⟨A, c, rfl, _⟩; rfl
 keep := by rintro F w w' cs x ⟨A, c, rfl, h1, h2⟩ k; exact ⟨A, c, rfl, h1, h2.keep k⟩
 wide := by rintro F F' w cs x ⟨A, c, rfl, h1, h2⟩ k; exact ⟨A, c, rfl, h1, h2.wide k⟩
 one := by
  rintro F w cs x ⟨A, c, rfl, _⟩ v hv
  simp at hv; rcases hv with rfl | rfl <;> rfl
def pFrm : Rp Frm where
 n := 2
 R F w cs m := ∃ A c, cs = [.int .i64 m.const, .slice A m.coefs.length c] /\ Fits .i64 m.const /\ SlAt (pI .i64) F w A c m.coefs
 len := by rintro F w cs x ⟨A, c, rfl, _⟩; rfl
 keep := by rintro F w w' cs x ⟨A, c, rfl, h1, h2⟩ k; exact ⟨A, c, rfl, h1, h2.keep k⟩
 wide := by rintro F F' w cs x ⟨A, c, rfl, h1, h2⟩ k; exact ⟨A, c, rfl, h1, h2.wide k⟩
 one := by
  rintro F w cs x ⟨A, c, rfl, _⟩ v hv
  simp at hv; rcases hv with rfl | rfl <;> rfl
def pShp : Rp Shp where
 n := 2
 R F w cs m := ∃ A c, cs = [.int .u8 m.name, .slice A m.args.length c] /\ Fits .u8 m.name /\ SlAt pFrm F w A c m.args
 len := by rintro F w cs x ⟨A, c, rfl, _⟩; rfl
 keep := by rintro F w w' cs x ⟨A, c, rfl, h1, h2⟩ k; exact ⟨A, c, rfl, h1, h2.keep k⟩
 wide := by rintro F F' w cs x ⟨A, c, rfl, h1, h2⟩ k; exact ⟨A, c, rfl, h1, h2.wide k⟩
 one := by
  rintro F w cs x ⟨A, c, rfl, _⟩ v hv
  simp at hv; rcases hv with rfl | rfl <;> rfl
def pRul : Rp Rul where
 n := 7
 R F w cs m := ∃ A c A' c', cs = [.int .u8 m.name, .int .i64 m.arity, .int .u8 m.left, .int .u8 m.right, .slice A m.guards.length c, .int .i64 m.weight, .slice A' m.out.length c'] /\
  (Fits .u8 m.name /\ Fits .i64 m.arity /\ Fits .u8 m.left /\ Fits .u8 m.right /\ Fits .i64 m.weight) /\ SlAt pFrm F w A c m.guards /\ SlAt pShp F w A' c' m.out
 len := by rintro F w cs x ⟨A, c, A', c', rfl, _⟩; rfl
 keep := by rintro F w w' cs x ⟨A, c, A', c', rfl, h1, h2, h3⟩ k; exact ⟨A, c, A', c', rfl, h1, h2.keep k, h3.keep k⟩
 wide := by rintro F F' w cs x ⟨A, c, A', c', rfl, h1, h2, h3⟩ k; exact ⟨A, c, A', c', rfl, h1, h2.wide k, h3.wide k⟩
 one := by
  rintro F w cs x ⟨A, c, A', c', rfl, _⟩ v hv
  simp at hv; rcases hv with rfl | rfl | rfl | rfl | rfl | rfl | rfl <;> rfl
def pModF : Rp Mod where
 n := 2
 R F w cs m := ∃ A c, cs = [.int .u8 m.name, .slice A m.args.length c] /\ Fits .u8 m.name /\ SlAt (pI .i64) F w A c m.args /\ (m.args ≠ [] -> ∀ b o, A = some ⟨b, o, none⟩ -> Unf w b)
 len := by rintro F w cs x ⟨A, c, rfl, _⟩; rfl
 keep := by
  rintro F w w' cs x ⟨A, c, rfl, h1, h2, h3⟩ k
  refine ⟨A, c, rfl, h1, h2.keep k, fun hne b o hA => unf_same (h3 hne b o hA) ?_⟩
  obtain ⟨b', o', _, _, hA', hF, _⟩ := h2.getI (i := 0) (List.length_pos_iff.2 hne)
  rw [hA] at hA'; cases hA'; exact k _ ‹_›
 wide := by rintro F F' w cs x ⟨A, c, rfl, h1, h2, h3⟩ k; exact ⟨A, c, rfl, h1, h2.wide k, h3⟩
 one := by
  rintro F w cs x ⟨A, c, rfl, _⟩ v hv
  simp at hv; rcases hv with rfl | rfl <;> rfl
theorem slAt_modF {F : Nat -> Prop} {w : World} {A : Option Addr} {cap : Nat} {xs : List Mod} (h : SlAt pModF F w A cap xs) : SlAt pMod F w A cap xs :=
 ⟨h.le, h.mx, h.nil, fun i x hx => by
  obtain ⟨b, o, cs, h1, h2, ⟨A', c', h3, h4, h5, _⟩, h6⟩ := h.el i x hx
  exact ⟨b, o, cs, h1, h2, ⟨A', c', h3, h4, h5⟩, h6⟩⟩
section
variable {F : Nat -> Prop} {w : World} {A : Option Addr} {cap : Nat}
theorem SlAt.getMod {xs : List Mod} (h : SlAt pMod F w A cap xs) {i : Nat} (hi : i < xs.length) :
  ∃ b o A' c' m, Hid (xs.drop i = m :: xs.drop (i + 1)) /\ A = some ⟨b, o, none⟩ /\ F b /\ w.cell? ⟨b, o + i * 2, none⟩ = some (.int .u8 m.name) /\ w.cell? ⟨b, o + i * 2 + 1, none⟩ = some (.slice A' m.args.length c') /\
   Fits .u8 m.name /\ Hid (SlAt (pI .i64) F w A' c' m.args) /\ m.args.length <= 9223372036854775807 := by
 obtain ⟨b, o, cs, x, h0, h1, h2, ⟨A', c', rfl, h3, h5⟩, h4⟩ := h.get hi
 exact ⟨b, o, A', c', x, h0, h1, h2, by simpa [pMod] using h4 0 _ rfl, by simpa [pMod] using h4 1 _ rfl, h3, h5, h5.lenle.1⟩
theorem SlAt.getFrm {xs : List Frm} (h : SlAt pFrm F w A cap xs) {i : Nat} (hi : i < xs.length) :
  ∃ b o A' c' m, Hid (xs.drop i = m :: xs.drop (i + 1)) /\ A = some ⟨b, o, none⟩ /\ F b /\ w.cell? ⟨b, o + i * 2, none⟩ = some (.int .i64 m.const) /\ w.cell? ⟨b, o + i * 2 + 1, none⟩ = some (.slice A' m.coefs.length c') /\
   Fits .i64 m.const /\ Hid (SlAt (pI .i64) F w A' c' m.coefs) /\ m.coefs.length <= 9223372036854775807 := by
 obtain ⟨b, o, cs, x, h0, h1, h2, ⟨A', c', rfl, h3, h5⟩, h4⟩ := h.get hi
 exact ⟨b, o, A', c', x, h0, h1, h2, by simpa [pFrm] using h4 0 _ rfl, by simpa [pFrm] using h4 1 _ rfl, h3, h5, h5.lenle.1⟩
theorem SlAt.getShp {xs : List Shp} (h : SlAt pShp F w A cap xs) {i : Nat} (hi : i < xs.length) :
  ∃ b o A' c' m, Hid (xs.drop i = m :: xs.drop (i + 1)) /\ A = some ⟨b, o, none⟩ /\ F b /\ w.cell? ⟨b, o + i * 2, none⟩ = some (.int .u8 m.name) /\ w.cell? ⟨b, o + i * 2 + 1, none⟩ = some (.slice A' m.args.length c') /\
   Fits .u8 m.name /\ Hid (SlAt pFrm F w A' c' m.args) /\ m.args.length <= 9223372036854775807 := by
 obtain ⟨b, o, cs, x, h0, h1, h2, ⟨A', c', rfl, h3, h5⟩, h4⟩ := h.get hi
 exact ⟨b, o, A', c', x, h0, h1, h2, by simpa [pShp] using h4 0 _ rfl, by simpa [pShp] using h4 1 _ rfl, h3, h5, h5.lenle.1⟩
theorem SlAt.getRul {xs : List Rul} (h : SlAt pRul F w A cap xs) {i : Nat} (hi : i < xs.length) :
  ∃ b o A' c' A'' c'' m, Hid (xs.drop i = m :: xs.drop (i + 1)) /\ A = some ⟨b, o, none⟩ /\ F b /\
   w.cell? ⟨b, o + i * 7, none⟩ = some (.int .u8 m.name) /\ w.cell? ⟨b, o + i * 7 + 1, none⟩ = some (.int .i64 m.arity) /\ w.cell? ⟨b, o + i * 7 + 2, none⟩ = some (.int .u8 m.left) /\ w.cell? ⟨b, o + i * 7 + 3, none⟩ = some (.int .u8 m.right) /\
   w.cell? ⟨b, o + i * 7 + 4, none⟩ = some (.slice A' m.guards.length c') /\ w.cell? ⟨b, o + i * 7 + 5, none⟩ = some (.int .i64 m.weight) /\ w.cell? ⟨b, o + i * 7 + 6, none⟩ = some (.slice A'' m.out.length c'') /\
   (Fits .u8 m.name /\ Fits .i64 m.arity /\ Fits .u8 m.left /\ Fits .u8 m.right /\ Fits .i64 m.weight) /\ Hid (SlAt pFrm F w A' c' m.guards) /\ Hid (SlAt pShp F w A'' c'' m.out) /\
   m.guards.length <= 9223372036854775807 /\ m.out.length <= 9223372036854775807 := by
 obtain ⟨b, o, cs, x, h0, h1, h2, ⟨A', c', A'', c'', rfl, h3, h5, h6⟩, h4⟩ := h.get hi
 exact ⟨b, o, A', c', A'', c'', x, h0, h1, h2, by simpa [pRul] using h4 0 _ rfl, by simpa [pRul] using h4 1 _ rfl, by simpa [pRul] using h4 2 _ rfl, by simpa [pRul] using h4 3 _ rfl, by simpa [pRul] using h4 4 _ rfl, by simpa [pRul] using h4 5 _ rfl, by simpa [pRul] using h4 6 _ rfl,
  h3, h5, h6, h5.lenle.1, h6.lenle.1⟩
end
section
variable {P : Program} {t : TypeId}
theorem opens_field {H : Type} {enc : TypeId × Value -> H} {w : World} {n : Nat} {cs : List Value} {xs : List (DataW H × List MemPlace)} {α : Type} {E : Rp α} {fs : Array Field} (hlen : xs.length = fs.size) {i : Nat} {f : Field} (hf : fs[i]? = some f)
  (h : DataW.trod enc P w 0 (fun _ => true) true n f.type ((cs.drop f.offset).take (P.cellsOf f.type)) = xs[i]?) (hE : Opens P f.type E) : ∃ y, E.R (Old w) w ((cs.drop f.offset).take (P.cellsOf f.type)) y := by
 have hi : i < xs.length := by rw [hlen]; exact (Array.getElem?_eq_some_iff.1 hf).1
 rw [List.getElem?_eq_getElem hi] at h
 exact hE H enc w n _ _ h
theorem opens_mod {f0 f1 : Field} (ht : P.underlying t = some (.struct #[f0, f1])) (hc : P.cellsOf t = 2) (h0 : f0.offset = 0 /\ P.cellsOf f0.type = 1) (h1 : f1.offset = 1 /\ P.cellsOf f1.type = 1)
  (o0 : Opens P f0.type (pI .u8)) (o1 : Opens P f1.type (pSl (pI .i64))) : Opens P t pMod := by
 intro H enc w fuel cs x h
 obtain ⟨xs, n, rfl, rfl, hl, hlen, hf⟩ := DataW.trod_struct ht h
 rw [hc] at hl
 match cs, hl with
 | [c0, c1], _ =>
  obtain ⟨y0, hy0⟩ := opens_field (f := f0) hlen (i := 0) rfl (hf 0 f0 rfl) o0
  obtain ⟨y1, hy1⟩ := opens_field (f := f1) hlen (i := 1) rfl (hf 1 f1 rfl) o1
  rw [h0.1, h0.2] at hy0
  rw [h1.1, h1.2] at hy1
  obtain ⟨e0, z0⟩ := hy0
  obtain ⟨A, c, e1, s1⟩ := hy1
  simp at e0 e1
  subst e0 e1
  exact ⟨⟨y0, y1⟩, A, c, rfl, z0, s1⟩
theorem opens_frm {f0 f1 : Field} (ht : P.underlying t = some (.struct #[f0, f1])) (hc : P.cellsOf t = 2) (h0 : f0.offset = 0 /\ P.cellsOf f0.type = 1) (h1 : f1.offset = 1 /\ P.cellsOf f1.type = 1)
  (o0 : Opens P f0.type (pI .i64)) (o1 : Opens P f1.type (pSl (pI .i64))) : Opens P t pFrm := by
 intro H enc w fuel cs x h
 obtain ⟨xs, n, rfl, rfl, hl, hlen, hf⟩ := DataW.trod_struct ht h
 rw [hc] at hl
 match cs, hl with
 | [c0, c1], _ =>
  obtain ⟨y0, hy0⟩ := opens_field (f := f0) hlen (i := 0) rfl (hf 0 f0 rfl) o0
  obtain ⟨y1, hy1⟩ := opens_field (f := f1) hlen (i := 1) rfl (hf 1 f1 rfl) o1
  rw [h0.1, h0.2] at hy0
  rw [h1.1, h1.2] at hy1
  obtain ⟨e0, z0⟩ := hy0
  obtain ⟨A, c, e1, s1⟩ := hy1
  simp at e0 e1
  subst e0 e1
  exact ⟨⟨y0, y1⟩, A, c, rfl, z0, s1⟩
theorem opens_shp {f0 f1 : Field} (ht : P.underlying t = some (.struct #[f0, f1])) (hc : P.cellsOf t = 2) (h0 : f0.offset = 0 /\ P.cellsOf f0.type = 1) (h1 : f1.offset = 1 /\ P.cellsOf f1.type = 1)
  (o0 : Opens P f0.type (pI .u8)) (o1 : Opens P f1.type (pSl pFrm)) : Opens P t pShp := by
 intro H enc w fuel cs x h
 obtain ⟨xs, n, rfl, rfl, hl, hlen, hf⟩ := DataW.trod_struct ht h
 rw [hc] at hl
 match cs, hl with
 | [c0, c1], _ =>
  obtain ⟨y0, hy0⟩ := opens_field (f := f0) hlen (i := 0) rfl (hf 0 f0 rfl) o0
  obtain ⟨y1, hy1⟩ := opens_field (f := f1) hlen (i := 1) rfl (hf 1 f1 rfl) o1
  rw [h0.1, h0.2] at hy0
  rw [h1.1, h1.2] at hy1
  obtain ⟨e0, z0⟩ := hy0
  obtain ⟨A, c, e1, s1⟩ := hy1
  simp at e0 e1
  subst e0 e1
  exact ⟨⟨y0, y1⟩, A, c, rfl, z0, s1⟩
theorem opens_rul {f0 f1 f2 f3 f4 f5 f6 : Field} (ht : P.underlying t = some (.struct #[f0, f1, f2, f3, f4, f5, f6])) (hc : P.cellsOf t = 7)
  (ho : [f0, f1, f2, f3, f4, f5, f6].map (fun f => (f.offset, P.cellsOf f.type)) = [(0, 1), (1, 1), (2, 1), (3, 1), (4, 1), (5, 1), (6, 1)])
  (o0 : Opens P f0.type (pI .u8)) (o1 : Opens P f1.type (pI .i64)) (o2 : Opens P f2.type (pI .u8)) (o3 : Opens P f3.type (pI .u8)) (o4 : Opens P f4.type (pSl pFrm)) (o5 : Opens P f5.type (pI .i64)) (o6 : Opens P f6.type (pSl pShp)) : Opens P t pRul := by
 intro H enc w fuel cs x h
 simp only [List.map_cons, List.map_nil, List.cons.injEq, Prod.mk.injEq, and_true] at ho
 obtain ⟨a0, a1, a2, a3, a4, a5, a6⟩ := ho
 obtain ⟨xs, n, rfl, rfl, hl, hlen, hf⟩ := DataW.trod_struct ht h
 rw [hc] at hl
 match cs, hl with
 | [c0, c1, c2, c3, c4, c5, c6], _ =>
  obtain ⟨y0, hy0⟩ := opens_field (f := f0) hlen (i := 0) rfl (hf 0 f0 rfl) o0
  obtain ⟨y1, hy1⟩ := opens_field (f := f1) hlen (i := 1) rfl (hf 1 f1 rfl) o1
  obtain ⟨y2, hy2⟩ := opens_field (f := f2) hlen (i := 2) rfl (hf 2 f2 rfl) o2
  obtain ⟨y3, hy3⟩ := opens_field (f := f3) hlen (i := 3) rfl (hf 3 f3 rfl) o3
  obtain ⟨y4, hy4⟩ := opens_field (f := f4) hlen (i := 4) rfl (hf 4 f4 rfl) o4
  obtain ⟨y5, hy5⟩ := opens_field (f := f5) hlen (i := 5) rfl (hf 5 f5 rfl) o5
  obtain ⟨y6, hy6⟩ := opens_field (f := f6) hlen (i := 6) rfl (hf 6 f6 rfl) o6
  rw [a0.1, a0.2] at hy0
  rw [a1.1, a1.2] at hy1
  rw [a2.1, a2.2] at hy2
  rw [a3.1, a3.2] at hy3
  rw [a4.1, a4.2] at hy4
  rw [a5.1, a5.2] at hy5
  rw [a6.1, a6.2] at hy6
  obtain ⟨e0, z0⟩ := hy0
  obtain ⟨e1, z1⟩ := hy1
  obtain ⟨e2, z2⟩ := hy2
  obtain ⟨e3, z3⟩ := hy3
  obtain ⟨A, c, e4, s4⟩ := hy4
  obtain ⟨e5, z5⟩ := hy5
  obtain ⟨A', c', e6, s6⟩ := hy6
  simp at e0 e1 e2 e3 e4 e5 e6
  subst e0 e1 e2 e3 e4 e5 e6
  exact ⟨⟨y0, y1, y2, y3, y4, y5, y6⟩, A, c, A', c', rfl, ⟨z0, z1, z2, z3, z5⟩, s4, s6⟩
end
end
section
open Go.RowKit
def dstQ : List Oper -> Bool
 | [] => true
 | o :: r => (match o.dst with | some d => r.all (fun p => p.dst != some d) | none => true) && dstQ r
theorem dstQ_at : ∀ {l : List Oper}, dstQ l = true -> ∀ {i j : Nat} {o p : Oper} {d : Tmp}, l[i]? = some o -> l[j]? = some p -> o.dst = some d -> p.dst = some d -> i = j
 | [], _, i, j, o, p, d, h, _, _, _ => by simp at h
 | q :: r, hq, i, j, o, p, d, h1, h2, h3, h4 => by
  unfold dstQ at hq
  rw [Bool.and_eq_true] at hq
  have key : ∀ {k : Nat} {x : Oper}, r[k]? = some x -> q.dst = some d -> x.dst = some d -> False := fun {k x} hx e1 e2 => by
   have h5 := hq.1
   rw [e1] at h5
   have := List.all_eq_true.1 h5 x (List.mem_of_getElem? hx)
   rw [e2] at this
   simp at this
  match i, j with
  | 0, 0 => rfl
  | 0, j + 1 => simp at h1; subst h1; exact (key (by simpa using h2) h3 h4).elim
  | i + 1, 0 => simp at h2; subst h2; exact (key (by simpa using h1) h4 h3).elim
  | i + 1, j + 1 => exact congrArg (· + 1) (dstQ_at hq.2 (by simpa using h1) (by simpa using h2) h3 h4)
def edgeQ (l : List Oper) (i j : Nat) : Bool := match l[i]? with | some o => o.after.any fun e => Region.binds .any e && e.on == j | none => false
def slotL (l : List Oper) (tm : Array Value) (j : Nat) : Value := match (l[j]?).bind (·.dst) with | some d => tm.getD d undef | none => undef
def liveL (c : List (Option Nat)) (listed : Array Bool) (j : Nat) : Prop := listed.getD j false = true /\ ∀ k, c.getD j none = some k -> listed.getD k false = false
theorem count_set : ∀ {bs : List Bool} {i : Nat}, bs[i]? = some false -> (bs.set i true).count false + 1 = bs.count false
 | [], i, h => by simp at h
 | b :: bs, 0, h => by simp at h; subst h; simp
 | b :: bs, i + 1, h => by
  have := count_set (bs := bs) (i := i) (by simpa using h)
  simp only [List.set_cons_succ, List.count_cons]
  omega
section
variable {P : Program} {l : List Oper} {c : List (Option Nat)} {D : List (List Nat)} {tm : Array Value} {df : List Deferred} {w0 : World} {Q : Exit -> Act -> World -> Prop}
structure LeftL (Φ : Nat -> (Nat -> Prop) -> (Nat -> Value) -> World -> Prop) (l : List Oper) (w0 : World) (c : List (Option Nat)) (D : List (List Nat)) (i : Nat) (o : Oper) (a : Act) (w : World) (X : Nat -> Nat -> Prop) (a' : Act) (w' : World) (v : Value) (Y : Nat -> Prop) : Prop where
 act : a' = a.put o.dst v
 fact : ∀ s : Nat -> Value, s i = v -> (∀ k, k ∈ D.getD i [] -> s k = slotL l a.tmps k) -> Φ i Y s w'
 nov : o.dst = none -> v = undef
 bel : RowKit.Below w0.heap.size w0 w'
 size : w.heap.size <= w'.heap.size
 own : ∀ b, Y b -> (∃ j, c.getD j none = some i /\ X j b) ∨ (w.heap.size <= b /\ b < w'.heap.size)
 same : ∀ b, b < w.heap.size -> (∀ j, c.getD j none = some i -> ¬ X j b) -> w'.heap[b]? = w.heap[b]?
structure AtL (Φ : Nat -> (Nat -> Prop) -> (Nat -> Value) -> World -> Prop) (l : List Oper) (c : List (Option Nat)) (D : List (List Nat)) (tm : Array Value) (df : List Deferred) (w0 : World) (i : Nat) (a : Act) (w : World) (X : Nat -> Nat -> Prop) : Prop where
 bel : RowKit.Below w0.heap.size w0 w
 df : a.defers = df
 sz : a.tmps.size = tm.size
 out : ∀ s, (∀ o ∈ l, o.dst ≠ some s) -> a.tmps[s]? = tm[s]?
 get : ∀ j, j ∈ D.getD i [] -> c.getD j none = none ∨ c.getD j none = some i -> Φ j (X j) (slotL l a.tmps) w
 own : ∀ j b, j ∈ D.getD i [] -> c.getD j none = none ∨ c.getD j none = some i -> X j b -> w0.heap.size <= b /\ b < w.heap.size
 apart : ∀ j k b, j ∈ D.getD i [] -> c.getD j none = none ∨ c.getD j none = some i -> k ∈ D.getD i [] -> c.getD k none = none ∨ c.getD k none = some i -> j ≠ k -> X j b -> ¬ X k b
structure InvL (Φ : Nat -> (Nat -> Prop) -> (Nat -> Value) -> World -> Prop) (l : List Oper) (c : List (Option Nat)) (tm : Array Value) (df : List Deferred) (w0 : World) (listed : Array Bool) (a : Act) (w : World) (X : Nat -> Nat -> Prop) : Prop where
 ls : listed.size = l.length
 past : ∀ j k, j < l.length -> listed.getD j false = true -> edgeQ l j k = true -> listed.getD k false = true
 bel : RowKit.Below w0.heap.size w0 w
 df : a.defers = df
 sz : a.tmps.size = tm.size
 out : ∀ s, (∀ j o, l[j]? = some o -> listed.getD j false = true -> o.dst ≠ some s) -> a.tmps[s]? = tm[s]?
 get : ∀ j, liveL c listed j -> Φ j (X j) (slotL l a.tmps) w
 own : ∀ j b, liveL c listed j -> X j b -> w0.heap.size <= b /\ b < w.heap.size
 apart : ∀ j k b, liveL c listed j -> liveL c listed k -> j ≠ k -> X j b -> ¬ X k b
section
variable {Φ : Nat -> (Nat -> Prop) -> (Nat -> Value) -> World -> Prop} {i : Nat} {o : Oper} {a : Act} {w : World} {X : Nat -> Nat -> Prop}
theorem AtL.val (h : AtL Φ l c D tm df w0 i a w X) {j : Nat} {d : Tmp} (hj : (l[j]?).bind (·.dst) = some d) : a.eval (.tmp d) = slotL l a.tmps j := by
 unfold slotL
 rw [hj]
 rfl
theorem AtL.old (h : AtL Φ l c D tm df w0 i a w X) {d : Tmp} {v : Value} (hd : (l.all fun o => o.dst != some d) = true) (hv : tm[d]? = some v) : a.eval (.tmp d) = v := by
 have := h.out d fun o ho e => by
  have := List.all_eq_true.1 hd o ho
  rw [e] at this
  simp at this
 show a.tmps.getD d undef = v
 rw [Array.getD_eq_getD_getElem?, this, hv]
 rfl
end
end
end
end Go.Proofs.YtlipmagkplbkdaaDoor
