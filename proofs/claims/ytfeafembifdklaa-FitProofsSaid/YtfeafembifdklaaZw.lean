/-
  Layer 43: the search for a certificate, whole.
-/
import Derived.Test.YtfeafembifdklaaZs
import Derived.Test.YtfeafembifdklaaZv
namespace Go.Proofs.Ytfeafembifdklaa
open Go.RowKit Go.Sort


theorem look_calls (f : Fit) (least : Int) (B po pf pl pk : Nat) (A1 : Option Addr) (c1 : Nat) (A2 : Option Addr) (c2 : Nat) (A3 : Option Addr) (c3 : Nat) (A4 : Option Addr) (c4 : Nat) : ∀ (N : Nat) (lo hi : List Int) (B1 : Option Addr) (d1 : Nat) (B2 : Option Addr) (d2 : Nat) (w : World) (A : Option Addr) (n c : Nat) (out : List Cub),
    LookAt f least B po pf pl pk (.func (.func 15) #[] #[.pointer (some ⟨po, 0, none⟩), .pointer (some ⟨pf, 0, none⟩), .pointer (some ⟨pl, 0, none⟩), .pointer (some ⟨pk, 0, none⟩)]) A1 c1 A2 c2 A3 c3 A4 c4 w A n c out → SlAt (pI .i64) (Side po (.slice A n c) w) w B1 d1 lo → SlAt (pI .i64) (Side po (.slice A n c) w) w B2 d2 hi → CubOk f lo hi → (∀ y, InBox lo hi y → least ≤ costF f y) → span lo hi < N → out.length ≤ 2001 →
    Calls Try.prog 15 #[.agg #[.slice B1 lo.length d1, .slice B2 hi.length d2], .pointer (some ⟨po, 0, none⟩), .pointer (some ⟨pf, 0, none⟩), .pointer (some ⟨pl, 0, none⟩), .pointer (some ⟨pk, 0, none⟩)] w (LookPost f least B po pf pl pk (.func (.func 15) #[] #[.pointer (some ⟨po, 0, none⟩), .pointer (some ⟨pf, 0, none⟩), .pointer (some ⟨pl, 0, none⟩), .pointer (some ⟨pk, 0, none⟩)]) A1 c1 A2 c2 A3 c3 A4 c4 w (.slice A n c) (lookF f least N lo hi out)) := by
  intro N
  induction N with
  | zero => intro lo hi B1 d1 B2 d2 w A n c out _ _ _ _ _ hN; omega
  | succ N ih =>
    intro lo hi B1 d1 B2 d2 w A n c out hat hl hh hok hmin hN ho
    by_cases h1 : 2000 < out.length
    · exact look_leaf f least B po pf pl pk A1 c1 A2 c2 A3 c3 A4 c4 N lo hi B1 d1 B2 d2 w A n c out hat hl hh hok (.inl h1) ho
    · by_cases h2 : least ≤ boundF f.terms f.goals lo hi
      · exact look_leaf f least B po pf pl pk A1 c1 A2 c2 A3 c3 A4 c4 N lo hi B1 d1 B2 d2 w A n c out hat hl hh hok (.inr h2) ho
      · exact look_split f least B po pf pl pk A1 c1 A2 c2 A3 c3 A4 c4 N lo hi B1 d1 B2 d2 w A n c out hat hl hh hok hmin h1 h2 hN ih
end Go.Proofs.Ytfeafembifdklaa
