/-
  Layer 7: the walks of Many and of the two Checks.
-/
import Derived.Test.YtckffdaomjbglaaFd
namespace Go.Proofs.Ytckffdaomjbglaa
open Go.RowKit Go.Sort

/-- rules that are not great -/
structure Small (rs : List Rul) : Prop where
  l : rs.length ≤ 50
  g : ∀ r ∈ rs, r.guards.length ≤ 10
  o : ∀ r ∈ rs, r.out.length ≤ 30
  a : ∀ r ∈ rs, ∀ s ∈ r.out, s.args.length ≤ 10

theorem RulAt.to {r : Rul} {w wo W : World} {A : Option Addr} {c : Nat} {A' : Option Addr} {c' : Nat} (h : RulAt r (Old w) wo A c A' c') (hs : w.heap.size ≤ wo.heap.size) (hb : Below wo.heap.size wo W) : RulAt r (Old W) W A c A' c' :=
  have hk : ∀ q, Old w q → W.heap[q]? = wo.heap[q]? := fun q hq => hb.block q (Nat.lt_of_lt_of_le hq hs)
  have hw : ∀ q, Old w q → Old W q := fun _ hq => Nat.lt_of_lt_of_le hq (Nat.le_trans hs hb.size)
  ⟨h.fn, h.fa, h.fl, h.fr, h.fw, (h.sg.keep hk).wide hw, (h.so.keep hk).wide hw⟩
theorem SlAt.getRulAt {F : Nat → Prop} {w : World} {A : Option Addr} {cap : Nat} {xs : List Rul} (h : SlAt pRul F w A cap xs) {i : Nat} (hi : i < xs.length) :
    ∃ b o A' c' A'' c'' m, Hid (xs.drop i = m :: xs.drop (i + 1)) ∧ A = some ⟨b, o, none⟩ ∧ F b ∧
      w.cell? ⟨b, o + i * 7, none⟩ = some (.int .u8 m.name) ∧ w.cell? ⟨b, o + i * 7 + 1, none⟩ = some (.int .i64 m.arity) ∧ w.cell? ⟨b, o + i * 7 + 2, none⟩ = some (.int .u8 m.left) ∧ w.cell? ⟨b, o + i * 7 + 3, none⟩ = some (.int .u8 m.right) ∧
      w.cell? ⟨b, o + i * 7 + 4, none⟩ = some (.slice A' m.guards.length c') ∧ w.cell? ⟨b, o + i * 7 + 5, none⟩ = some (.int .i64 m.weight) ∧ w.cell? ⟨b, o + i * 7 + 6, none⟩ = some (.slice A'' m.out.length c'') ∧
      Hid (RulAt m F w A' c' A'' c'') ∧ m.guards.length ≤ 9223372036854775807 ∧ m.out.length ≤ 9223372036854775807 := by
  obtain ⟨b, o, A', c', A'', c'', m, h0, h1, h2, k0, k1, k2, k3, k4, k5, k6, ⟨f1, f2, f3, f4, f5⟩, hg, ho, l1, l2⟩ := h.getRul hi
  exact ⟨b, o, A', c', A'', c'', m, h0, h1, h2, k0, k1, k2, k3, k4, k5, k6, ⟨f1, f2, f3, f4, f5, hg.out, ho.out⟩, l1, l2⟩

def manyB (r : Rul) : Bool := decide (4 < r.guards.length) || decide (20 < r.out.length)
theorem manyR_of {rs : List Rul} (h : ¬ 40 < rs.length) : manyR rs = rs.any manyB := by
  unfold manyR manyB; rw [show decide (40 < rs.length) = false from by simpa using h]; rfl
theorem manyB_no {r : Rul} (h1 : ¬ 4 < r.guards.length) (h2 : ¬ 20 < r.out.length) : manyB r = false := by unfold manyB; simp; omega
theorem manyB_yes {r : Rul} (h : 4 < r.guards.length ∨ 20 < r.out.length) : manyB r = true := by unfold manyB; simp; omega

theorem checkR_many {rs : List Rul} (h : manyR rs = true) : checkR rs = 4 := by unfold checkR; rw [if_pos h]
theorem checkR_all {rs : List Rul} (h : manyR rs = false) : checkR rs = if rs.all fineR = true then 0 else 8 := by unfold checkR; rw [if_neg (by rw [h]; decide)]

end Go.Proofs.Ytckffdaomjbglaa
