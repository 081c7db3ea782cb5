/-
  Layer 43: what the search for a certificate reads and writes.
-/
import Derived.Test.YtfeafembifdklaaZq
import Derived.Test.YtfeafembifdklaaZl
namespace Go.Proofs.Ytfeafembifdklaa
open Go.RowKit Go.Sort


theorem info_cub : (Try.prog.info? 40).map (fun i => (i.zero, i.size, i.bytes)) = some (some (.agg #[.slice none 0 0, .slice none 0 0]), 2, 48) := by kernel_rfl
/-- integers that may be written -/
def SlU (F : Nat → Prop) (w : World) (A : Option Addr) (c : Nat) (xs : List Int) : Prop := SlAt (pI .i64) F w A c xs ∧ (xs ≠ [] → ∀ b o, A = some ⟨b, o, none⟩ → Unf w b)
theorem SlU.keep {F : Nat → Prop} {w w' : World} {A : Option Addr} {c : Nat} {xs : List Int} (h : SlU F w A c xs) (k : ∀ k, F k → w'.heap[k]? = w.heap[k]?) : SlU F w' A c xs :=
  ⟨h.1.keep k, fun hne b o hA => by
    obtain ⟨b', o', _, _, hA', hF, _⟩ := h.1.getI (i := 0) (List.length_pos_iff.2 hne)
    rw [hA] at hA'
    cases hA'
    exact unf_same (h.2 hne b o hA) (k _ hF)⟩
theorem SlU.wide {F F' : Nat → Prop} {w : World} {A : Option Addr} {c : Nat} {xs : List Int} (h : SlU F w A c xs) (k : ∀ k, F k → F' k) : SlU F' w A c xs := ⟨h.1.wide k, h.2⟩
theorem slU_later {w w' : World} {A : Option Addr} {c : Nat} {xs : List Int} {B : Nat} (h : SlU (fun k => B ≤ k ∧ k < w.heap.size) w A c xs) (hb : Below w.heap.size w w') : SlU (fun k => B ≤ k ∧ k < w'.heap.size) w' A c xs :=
  (h.keep fun _ hk => hb.block _ hk.2).wide fun _ hk => ⟨hk.1, Nat.lt_of_lt_of_le hk.2 hb.size⟩
/-- a cube whose bounds may be written -/
def pCubF : Rp Cub where
  n := 2
  R F w cs m := ∃ A c A' c', cs = [.slice A m.lo.length c, .slice A' m.hi.length c'] ∧ SlU F w A c m.lo ∧ SlU F w A' c' m.hi
  len := by rintro F w cs x ⟨A, c, A', c', rfl, _⟩; rfl
  keep := by rintro F w w' cs x ⟨A, c, A', c', rfl, h1, h2⟩ k; exact ⟨A, c, A', c', rfl, h1.keep k, h2.keep k⟩
  wide := by rintro F F' w cs x ⟨A, c, A', c', rfl, h1, h2⟩ k; exact ⟨A, c, A', c', rfl, h1.wide k, h2.wide k⟩
  one := by
    rintro F w cs x ⟨A, c, A', c', rfl, _⟩ v hv
    simp at hv; rcases hv with rfl | rfl <;> rfl
theorem slAt_cubF {F : Nat → Prop} {w : World} {A : Option Addr} {cap : Nat} {xs : List Cub} (h : SlAt pCubF F w A cap xs) : SlAt pCub F w A cap xs :=
  ⟨h.le, h.mx, h.nil, fun i x hx => by
    obtain ⟨b, o, cs, h1, h2, ⟨A', c', A'', c'', h3, h4, h5⟩, h6⟩ := h.el i x hx
    exact ⟨b, o, cs, h1, h2, ⟨A', c', A'', c'', h3, h4.1, h5.1⟩, h6⟩⟩
def CopyPostU (xs : List Int) (n : Nat) (w W : World) (e : Ending) (W' : World) : Prop :=
  ∃ A c, e = .returned (.slice A n c) ∧ xs.length = n ∧ Below w.heap.size w W' ∧ Below W.heap.size W W' ∧ SlU (fun k => w.heap.size ≤ k ∧ k < W'.heap.size) W' A c xs
/-- all but the list's variable and the list's own row -/
def Side (po : Nat) (ov : Value) (w : World) (k : Nat) : Prop := k < w.heap.size ∧ k ≠ po ∧ some k ≠ ov.ownBlock
theorem FitAt.keep {f : Fit} {F F' : Nat → Prop} {w w' : World} {A1 A2 A3 A4 : Option Addr} {c1 c2 c3 c4 : Nat} (h : FitAt f F w A1 c1 A2 c2 A3 c3 A4 c4) (hk : ∀ k, F k → w'.heap[k]? = w.heap[k]? ∧ F' k) : FitAt f F' w' A1 c1 A2 c2 A3 c3 A4 c4 :=
  ⟨(h.l.keep fun k hF => (hk k hF).1).wide fun k hF => (hk k hF).2, (h.h.keep fun k hF => (hk k hF).1).wide fun k hF => (hk k hF).2, (h.t.keep fun k hF => (hk k hF).1).wide fun k hF => (hk k hF).2, (h.g.keep fun k hF => (hk k hF).1).wide fun k hF => (hk k hF).2⟩
theorem FitAt.old {f : Fit} {po : Nat} {ov : Value} {w : World} {A1 A2 A3 A4 : Option Addr} {c1 c2 c3 c4 : Nat} (h : FitAt f (Side po ov w) w A1 c1 A2 c2 A3 c3 A4 c4) : FitAt f (Old w) w A1 c1 A2 c2 A3 c3 A4 c4 := h.keep fun _ hk => ⟨rfl, hk.1⟩

structure LookAt (f : Fit) (least : Int) (B po pf pl pk : Nat) (fv : Value) (A1 : Option Addr) (c1 : Nat) (A2 : Option Addr) (c2 : Nat) (A3 : Option Addr) (c3 : Nat) (A4 : Option Addr) (c4 : Nat) (w : World) (A : Option Addr) (n c : Nat) (out : List Cub) : Prop where
  fit : FitAt f (Side po (.slice A n c) w) w A1 c1 A2 c2 A3 c3 A4 c4
  bf : Blk w pf 25 #[.slice A1 f.lo.length c1, .slice A2 f.hi.length c2, .slice A3 f.terms.length c3, .slice A4 f.goals.length c4]
  bl : Blk w pl 2 #[.int .i64 least]
  bk : Blk w pk 48 #[fv]
  bo : Blk w po 26 #[.slice A n c]
  own : Own pCubF 40 B (fun k => B ≤ k ∧ k ≠ po) w (.slice A n c) out
  sf : Side po (.slice A n c) w pf
  sl : Side po (.slice A n c) w pl
  sk : Side po (.slice A n c) w pk
  bB : B ≤ po
  pn : (Value.slice A n c).ownBlock ≠ some po
  sz : B ≤ w.heap.size
/-- what a step of the search leaves -/
structure LookKept (B po : Nat) (ov ov' : Value) (w w' : World) : Prop where
  bel : Below B w w'
  side : ∀ k, Side po ov w k → w'.heap[k]? = w.heap[k]? ∧ Side po ov' w' k
theorem LookKept.refl (B po : Nat) (ov : Value) (w : World) : LookKept B po ov ov w w := ⟨Below.refl _ _, fun _ h => ⟨rfl, h⟩⟩
theorem LookKept.trans {B po : Nat} {v1 v2 v3 : Value} {w1 w2 w3 : World} (h1 : LookKept B po v1 v2 w1 w2) (h2 : LookKept B po v2 v3 w2 w3) : LookKept B po v1 v3 w1 w3 :=
  ⟨h1.bel.trans h2.bel, fun k hk => ⟨((h2.side k (h1.side k hk).2).1).trans (h1.side k hk).1, (h2.side k (h1.side k hk).2).2⟩⟩
/-- a step that only lays memory -/
theorem LookKept.below {B po : Nat} {v : Value} {w w' : World} (hB : B ≤ w.heap.size) (h : Below w.heap.size w w') : LookKept B po v v w w' :=
  ⟨h.mono hB, fun k hk => ⟨h.block k hk.1, Nat.lt_of_lt_of_le hk.1 h.size, hk.2.1, hk.2.2⟩⟩
section
variable {f : Fit} {least : Int} {B po pf pl pk : Nat} {fv : Value} {A1 A2 A3 A4 : Option Addr} {c1 c2 c3 c4 : Nat} {w w' : World} {A : Option Addr} {n c : Nat} {out : List Cub}
theorem LookAt.lt (h : LookAt f least B po pf pl pk fv A1 c1 A2 c2 A3 c3 A4 c4 w A n c out) : po < w.heap.size := h.bo.lt
theorem LookAt.ne (h : LookAt f least B po pf pl pk fv A1 c1 A2 c2 A3 c3 A4 c4 w A n c out) : ∀ k, (Value.slice A n c).ownBlock = some k → k ≠ po → B ≤ k ∧ k < w.heap.size := fun k hk _ => h.own.lt k hk
/-- memory was laid, nothing else -/
theorem LookAt.below (h : LookAt f least B po pf pl pk fv A1 c1 A2 c2 A3 c3 A4 c4 w A n c out) (hb : Below w.heap.size w w') : LookAt f least B po pf pl pk fv A1 c1 A2 c2 A3 c3 A4 c4 w' A n c out := by
  have hk := LookKept.below (po := po) (v := .slice A n c) h.sz hb
  exact ⟨h.fit.keep fun k hF => hk.side k hF, h.bf.same (hk.side _ h.sf).1, h.bl.same (hk.side _ h.sl).1, h.bk.same (hk.side _ h.sk).1, h.bo.same (hb.block _ h.lt), h.own.later hb, (hk.side _ h.sf).2, (hk.side _ h.sl).2, (hk.side _ h.sk).2, h.bB, h.pn, Nat.le_trans h.sz hb.size⟩
/-- a slice that the search may read -/
theorem side_sl {v v' : Value} {x : List Int} {Ax : Option Addr} {cx : Nat} (h : SlAt (pI .i64) (Side po v w) w Ax cx x) (hk : LookKept B po v v' w w') : SlAt (pI .i64) (Side po v' w') w' Ax cx x :=
  (h.keep fun k hF => (hk.side k hF).1).wide fun k hF => (hk.side k hF).2
theorem side_old {v : Value} {x : List Int} {Ax : Option Addr} {cx : Nat} (h : SlAt (pI .i64) (Side po v w) w Ax cx x) : SlAt (pI .i64) (Old w) w Ax cx x := h.wide fun _ hk => hk.1
/-- a row that was made behind the world w -/
theorem new_side (h : LookAt f least B po pf pl pk fv A1 c1 A2 c2 A3 c3 A4 c4 w A n c out) {g : Nat} (h1 : w.heap.size ≤ g) (h2 : g < w'.heap.size) : Side po (.slice A n c) w' g :=
  ⟨h2, fun e => by have := h.lt; omega, fun e => by have := (h.own.lt g e.symm).2; omega⟩
end
section
variable {f : Fit} {least : Int} {B po pf pl pk : Nat} {fv : Value} {A1 A2 A3 A4 : Option Addr} {c1 c2 c3 c4 : Nat} {w1 W w8 : World} {A A8 : Option Addr} {n n' c c8 : Nat} {out out' : List Cub}
/-- memory was laid, the list was appended to, and the list's variable was set -/
theorem look_grow (h : LookAt f least B po pf pl pk fv A1 c1 A2 c2 A3 c3 A4 c4 w1 A n c out) (hb : Below w1.heap.size w1 W) (hg : Grew B W w8 (.slice A n c) (.slice A8 n' c8))
    (hown : Own pCubF 40 B (fun k => B ≤ k ∧ k ≠ po) w8 (.slice A8 n' c8) out') :
    LookAt f least B po pf pl pk fv A1 c1 A2 c2 A3 c3 A4 c4 (w8.setCell ⟨po, 0, none⟩ (.slice A8 n' c8)) A8 n' c8 out' ∧ LookKept B po (.slice A n c) (.slice A8 n' c8) w1 (w8.setCell ⟨po, 0, none⟩ (.slice A8 n' c8)) := by
  have hz1 := hb.size
  have hz2 := hg.bel.size
  have hlt := h.lt
  have hsz := h.sz
  have hs8 : (w8.setCell ⟨po, 0, none⟩ (.slice A8 n' c8)).heap.size = w8.heap.size := by simp [World.setCell]
  have pn' : (Value.slice A8 n' c8).ownBlock ≠ some po := fun e => by
    rcases hg.blk with e1 | ⟨j, e1, e2⟩
    · exact h.pn (e1.symm.trans e)
    · have h1 : some j = some po := e1.symm.trans e
      injection h1 with h1
      omega
  have kk : ∀ k, Side po (.slice A n c) w1 k → (w8.setCell ⟨po, 0, none⟩ (.slice A8 n' c8)).heap[k]? = w1.heap[k]? ∧ Side po (.slice A8 n' c8) (w8.setCell ⟨po, 0, none⟩ (.slice A8 n' c8)) k := fun k ⟨h1, h2, h3⟩ =>
    ⟨(Below.heap_setCell w8 ⟨po, 0, none⟩ _ k h2).trans ((hg.oth k (by omega) h3).trans (hb.block k h1)), by omega, h2, fun e => by
      rcases hg.blk with e1 | ⟨j, e1, e2⟩
      · exact h3 (e.trans e1)
      · have h4 : some k = some j := e.trans e1
        injection h4 with h4
        omega⟩
  refine ⟨⟨h.fit.keep kk, h.bf.same (kk _ h.sf).1, h.bl.same (kk _ h.sl).1, h.bk.same (kk _ h.sk).1, ?_, ?_, (kk _ h.sf).2, (kk _ h.sl).2, (kk _ h.sk).2, h.bB, pn', by omega⟩, ⟨((hb.mono hsz).trans hg.bel).setCell h.bB _, kk⟩⟩
  · have := ((h.bo.same (hb.block _ hlt)).same (hg.oth po (by omega) (fun e => h.pn e.symm))).set 0 (.slice A8 n' c8)
    simpa using this
  · exact hown.keepG (fun k hk hG => Below.heap_setCell w8 ⟨po, 0, none⟩ _ k (by
      rcases hG with hG | hG
      · exact hG.2
      · intro e; exact pn' (by rw [← (show k = po from e)]; exact hG))) (by omega)
end
def LookPost (f : Fit) (least : Int) (B po pf pl pk : Nat) (fv : Value) (A1 : Option Addr) (c1 : Nat) (A2 : Option Addr) (c2 : Nat) (A3 : Option Addr) (c3 : Nat) (A4 : Option Addr) (c4 : Nat) (w : World) (ov : Value) (out : List Cub) (e : Ending) (w' : World) : Prop :=
  e = .returned (.tuple #[]) ∧ ∃ A n c, LookAt f least B po pf pl pk fv A1 c1 A2 c2 A3 c3 A4 c4 w' A n c out ∧ LookKept B po ov (.slice A n c) w w'
end Go.Proofs.Ytfeafembifdklaa
