/-
  Layer 17: how lines and marks lie.
-/
import Derived.Test.YtldccpmnboebmaaDoorVa
namespace Go.Proofs.YtldccpmnboebmaaDoor
open Go.RowKit
set_option linter.unusedVariables false

structure Ln where
  fr : V3
  to : V3
  dep : Int
  deriving DecidableEq
structure Mk where
  name : Int
  turn : Int
  pl : V3
  deriving DecidableEq
def FitV (v : V3) : Prop := Fits .i64 v.1 ∧ Fits .i64 v.2.1 ∧ Fits .i64 v.2.2
def cellsV (v : V3) : List Value := [.int .i64 v.1, .int .i64 v.2.1, .int .i64 v.2.2]
theorem one_ints {l : List Value} (h : ∀ v ∈ l, ∃ k x, v = .int k x) : ∀ v ∈ l, v.oneCell' = true := by
  intro v hv
  obtain ⟨k, x, rfl⟩ := h v hv
  rfl
def pLn : Rp Ln where
  n := 7
  R _ _ cs l := cs = [.int .i64 l.fr.1, .int .i64 l.fr.2.1, .int .i64 l.fr.2.2, .int .i64 l.to.1, .int .i64 l.to.2.1, .int .i64 l.to.2.2, .int .i64 l.dep] ∧ FitV l.fr ∧ FitV l.to ∧ Fits .i64 l.dep
  len := by rintro F w cs x ⟨rfl, _⟩; rfl
  keep := by rintro F w w' cs x h _; exact h
  wide := by rintro F F' w cs x h _; exact h
  one := by
    rintro F w cs x ⟨rfl, _⟩ v hv
    simp at hv
    rcases hv with rfl | rfl | rfl | rfl | rfl | rfl | rfl <;> rfl
def pMk : Rp Mk where
  n := 5
  R _ _ cs m := cs = [.int .u8 m.name, .int .u8 m.turn, .int .i64 m.pl.1, .int .i64 m.pl.2.1, .int .i64 m.pl.2.2] ∧ Fits .u8 m.name ∧ Fits .u8 m.turn ∧ FitV m.pl
  len := by rintro F w cs x ⟨rfl, _⟩; rfl
  keep := by rintro F w w' cs x h _; exact h
  wide := by rintro F F' w cs x h _; exact h
  one := by
    rintro F w cs x ⟨rfl, _⟩ v hv
    simp at hv
    rcases hv with rfl | rfl | rfl | rfl | rfl <;> rfl
variable {F : Nat → Prop} {w : World} {A : Option Addr} {cap : Nat}
theorem SlAt.getLn {xs : List Ln} (h : SlAt pLn F w A cap xs) {i : Nat} (hi : i < xs.length) :
    ∃ b o l, Hid (xs.drop i = l :: xs.drop (i + 1)) ∧ A = some ⟨b, o, none⟩ ∧ F b ∧
      w.cell? ⟨b, o + i * 7, none⟩ = some (.int .i64 l.fr.1) ∧ w.cell? ⟨b, o + i * 7 + 1, none⟩ = some (.int .i64 l.fr.2.1) ∧ w.cell? ⟨b, o + i * 7 + 2, none⟩ = some (.int .i64 l.fr.2.2) ∧
      w.cell? ⟨b, o + i * 7 + 3, none⟩ = some (.int .i64 l.to.1) ∧ w.cell? ⟨b, o + i * 7 + 4, none⟩ = some (.int .i64 l.to.2.1) ∧ w.cell? ⟨b, o + i * 7 + 5, none⟩ = some (.int .i64 l.to.2.2) ∧ w.cell? ⟨b, o + i * 7 + 6, none⟩ = some (.int .i64 l.dep) ∧
      FitV l.fr ∧ FitV l.to ∧ Fits .i64 l.dep := by
  obtain ⟨b, o, cs, x, h0, h1, h2, ⟨rfl, h3, h5, h6⟩, h4⟩ := h.get hi
  exact ⟨b, o, x, h0, h1, h2, by simpa [pLn] using h4 0 _ rfl, by simpa [pLn] using h4 1 _ rfl, by simpa [pLn] using h4 2 _ rfl, by simpa [pLn] using h4 3 _ rfl, by simpa [pLn] using h4 4 _ rfl, by simpa [pLn] using h4 5 _ rfl, by simpa [pLn] using h4 6 _ rfl, h3, h5, h6⟩
theorem SlAt.getMk {xs : List Mk} (h : SlAt pMk F w A cap xs) {i : Nat} (hi : i < xs.length) :
    ∃ b o l, Hid (xs.drop i = l :: xs.drop (i + 1)) ∧ A = some ⟨b, o, none⟩ ∧ F b ∧
      w.cell? ⟨b, o + i * 5, none⟩ = some (.int .u8 l.name) ∧ w.cell? ⟨b, o + i * 5 + 1, none⟩ = some (.int .u8 l.turn) ∧ w.cell? ⟨b, o + i * 5 + 2, none⟩ = some (.int .i64 l.pl.1) ∧
      w.cell? ⟨b, o + i * 5 + 3, none⟩ = some (.int .i64 l.pl.2.1) ∧ w.cell? ⟨b, o + i * 5 + 4, none⟩ = some (.int .i64 l.pl.2.2) ∧
      Fits .u8 l.name ∧ Fits .u8 l.turn ∧ FitV l.pl := by
  obtain ⟨b, o, cs, x, h0, h1, h2, ⟨rfl, h3, h5, h6⟩, h4⟩ := h.get hi
  exact ⟨b, o, x, h0, h1, h2, by simpa [pMk] using h4 0 _ rfl, by simpa [pMk] using h4 1 _ rfl, by simpa [pMk] using h4 2 _ rfl, by simpa [pMk] using h4 3 _ rfl, by simpa [pMk] using h4 4 _ rfl, h3, h5, h6⟩
structure Trk where
  lines : List Ln
  marks : List Mk
  fr : Fr
  drawn : Int
  deriving DecidableEq
end Go.Proofs.YtldccpmnboebmaaDoor
