/-
  Layer 6, plain: trunks, depths and counts of joint words. No walk.
-/
import Derived.Test.YtmcgfhgpldfknaaDoorPh
import Derived.Test.YtmcgfhgpldfknaaDoorWh
namespace Go.Proofs.YtmcgfhgpldfknaaDoor
open Go.RowKit

def sumD (ms : List Mod) : Int := (ms.map delta).sum
theorem sumD_cons (m : Mod) (ms : List Mod) : sumD (m :: ms) = delta m + sumD ms := by simp [sumD]
theorem scan_cons (n : Nat) (m : Mod) (ms : List Mod) : scan n (m :: ms) = if m.name = 91 then scan (n + 1) ms else if m.name = 93 then (if n = 0 then none else scan (n - 1) ms) else scan n ms := rfl
theorem scan_sum : ∀ {ms : List Mod} {n k : Nat}, scan n ms = some k → (n : Int) + sumD ms = k
  | [], n, k, h => by cases h; simp [sumD]
  | m :: ms, n, k, h => by
    rw [scan_cons] at h
    rw [sumD_cons]
    unfold delta
    by_cases h1 : m.name = 91
    · rw [if_pos h1] at h ⊢
      have := scan_sum h; omega
    · rw [if_neg h1] at h ⊢
      by_cases h2 : m.name = 93
      · rw [if_pos h2] at h ⊢
        by_cases h3 : n = 0
        · rw [if_pos h3] at h; cases h
        · rw [if_neg h3] at h
          have := scan_sum h; omega
      · rw [if_neg h2] at h ⊢
        have := scan_sum h; omega
theorem scan_more : ∀ (a b : List Mod) (n : Nat), scan n (a ++ b) = (scan n a).bind (fun k => scan k b)
  | [], b, n => rfl
  | m :: a, b, n => by
    rw [List.cons_append, scan_cons, scan_cons]
    split
    · exact scan_more a b _
    · split
      · split
        · rfl
        · exact scan_more a b _
      · exact scan_more a b _
theorem check_parts {w : List Mod} : checkF w = 0 ↔ w.length ≤ 2000 ∧ w.all fineF = true ∧ scan 0 w = some 0 := by
  unfold checkF
  by_cases h1 : 2000 < w.length
  · rw [if_pos h1]; constructor
    · intro h; cases h
    · rintro ⟨h, _⟩; omega
  · rw [if_neg h1]
    cases h2 : w.all fineF
    · simp
    · rw [if_neg (by decide)]
      cases h3 : scan 0 w with
      | none => simp
      | some n =>
        cases n with
        | zero => simp; omega
        | succ n => simp
theorem check_join {a b : List Mod} (ha : checkF a = 0) (hb : checkF b = 0) (hl : ¬ 2000 < a.length + b.length) : checkF (a ++ b) = 0 := by
  obtain ⟨_, a2, a3⟩ := check_parts.1 ha
  obtain ⟨_, b2, b3⟩ := check_parts.1 hb
  refine check_parts.2 ⟨by rw [List.length_append]; omega, by rw [List.all_append, a2, b2]; rfl, by rw [scan_more, a3]; exact b3⟩
theorem trunk_more : ∀ (a b : List Mod) (d : Int), trunk d (a ++ b) = trunk d a ++ trunk (d + sumD a) b
  | [], b, d => by simp [trunk, sumD]
  | m :: a, b, d => by
    rw [List.cons_append, sumD_cons, ← Int.add_assoc]
    by_cases h : d + delta m = 0 ∧ ¬ m.name = 93
    · rw [trunk_keep h.1 h.2, trunk_keep h.1 h.2, trunk_more a b, List.cons_append]
    · rw [trunk_drop h, trunk_drop h, trunk_more a b]
theorem trunk_bare : ∀ {ms : List Mod} {n k : Nat}, scan n ms = some k → ∀ m ∈ trunk (n : Int) ms, m.name ≠ 91 ∧ m.name ≠ 93
  | [], n, k, _, m, hm => by cases hm
  | x :: ms, n, k, h, m, hm => by
    rw [scan_cons] at h
    by_cases h1 : x.name = 91
    · rw [if_pos h1] at h
      rw [trunk_drop (by rw [delta_open h1]; omega), delta_open h1] at hm
      exact trunk_bare (n := n + 1) h m hm
    · rw [if_neg h1] at h
      by_cases h2 : x.name = 93
      · rw [if_pos h2] at h
        by_cases h3 : n = 0
        · rw [if_pos h3] at h; cases h
        · rw [if_neg h3] at h
          rw [trunk_drop (fun e => e.2 h2), delta_close h2, show (n : Int) + -1 = ((n - 1 : Nat) : Int) from by omega] at hm
          exact trunk_bare h m hm
      · rw [if_neg h2] at h
        have hd := delta_else h1 h2
        by_cases h3 : n = 0
        · subst h3
          rw [trunk_keep (by rw [hd]; rfl) h2, hd] at hm
          rcases List.mem_cons.1 hm with e | e
          · rw [e]; exact ⟨h1, h2⟩
          · exact trunk_bare (n := 0) h m e
        · rw [trunk_drop (by rw [hd]; omega), hd, Int.add_zero] at hm
          exact trunk_bare h m hm
theorem bare_trunk : ∀ {l : List Mod}, (∀ m ∈ l, m.name ≠ 91 ∧ m.name ≠ 93) → trunk 0 l = l ∧ scan 0 l = some 0 ∧ deep 0 0 l = 0
  | [], _ => ⟨rfl, rfl, rfl⟩
  | m :: l, h => by
    obtain ⟨h1, h2⟩ := h m (by simp)
    obtain ⟨i1, i2, i3⟩ := bare_trunk fun x hx => h x (List.mem_cons_of_mem m hx)
    have hd := delta_else h1 h2
    refine ⟨?_, ?_, ?_⟩
    · rw [trunk_keep (by rw [hd]; rfl) h2, hd]
      exact congrArg (m :: ·) i1
    · rw [scan_cons, if_neg h1, if_neg h2]; exact i2
    · unfold deep; rw [if_neg h1, if_neg h2]; exact i3
theorem trunk_check {ms : List Mod} (h : checkF ms = 0) : checkF (trunk 0 ms) = 0 ∧ trunk 0 (trunk 0 ms) = trunk 0 ms ∧ deep 0 0 (trunk 0 ms) = 0 := by
  obtain ⟨h1, h2, h3⟩ := check_parts.1 h
  obtain ⟨i1, i2, i3⟩ := bare_trunk (trunk_bare (n := 0) h3)
  have i1' : trunk 0 (trunk 0 ms) = trunk 0 ms := i1
  refine ⟨check_parts.2 ⟨by have := trunk_len ms 0; omega, ?_, i2⟩, i1', i3⟩
  rw [List.all_eq_true]
  exact fun m hm => List.all_eq_true.1 h2 m (trunk_mem ms 0 m hm)
theorem deep_cons (op mo : Int) (m : Mod) (ms : List Mod) : deep op mo (m :: ms) = if m.name = 91 then deep (op + 1) (max mo (op + 1)) ms else if m.name = 93 then deep (op - 1) mo ms else deep op mo ms := rfl
theorem deep_max : ∀ (ms : List Mod) (op a b : Int), deep op (max a b) ms = max a (deep op b ms)
  | [], op, a, b => rfl
  | m :: ms, op, a, b => by
    rw [deep_cons, deep_cons]
    split
    · rw [← deep_max ms, show max (max a b) (op + 1) = max a (max b (op + 1)) from by omega]
    · split <;> exact deep_max ms _ a b
theorem deep_ge (ms : List Mod) (op mo : Int) : mo ≤ deep op mo ms := by
  have := deep_max ms op mo mo
  rw [show max mo mo = mo from by omega] at this
  omega
theorem deep_more : ∀ (a b : List Mod) (op mo : Int), deep op mo (a ++ b) = deep (op + sumD a) (deep op mo a) b
  | [], b, op, mo => by simp [deep, sumD]
  | m :: a, b, op, mo => by
    rw [List.cons_append, deep_cons, deep_cons, sumD_cons]
    by_cases h1 : m.name = 91
    · rw [if_pos h1, if_pos h1, deep_more a b, delta_open h1]; congr 1; omega
    · rw [if_neg h1, if_neg h1]
      by_cases h2 : m.name = 93
      · rw [if_pos h2, if_pos h2, deep_more a b, delta_close h2]; congr 1; omega
      · rw [if_neg h2, if_neg h2, deep_more a b, delta_else h1 h2]; congr 1; omega
theorem countF_more (c : Int) (a b : List Mod) : countF c (a ++ b) = countF c a + countF c b := by unfold countF; rw [List.countP_append]

structure TrunksOk (a b : List Mod) (c : Int) : Prop where
  pa : stripF a = (trunk 0 a, 0)
  pb : stripF b = (trunk 0 b, 0)
  pw : stripF (a ++ b) = (trunk 0 a ++ trunk 0 b, 0)
  pj : joinRes (trunk 0 a) (trunk 0 b) = (trunk 0 a ++ trunk 0 b, 0)
  da : depthF a = (deep 0 0 a, 0)
  db : depthF b = (deep 0 0 b, 0)
  dw : depthF (a ++ b) = (max (deep 0 0 a) (deep 0 0 b), 0)
  dr : depthF (trunk 0 a ++ trunk 0 b) = (0, 0)
  sr : stripF (trunk 0 a ++ trunk 0 b) = (trunk 0 a ++ trunk 0 b, 0)
  ct : countF c (a ++ b) = countF c a + countF c b
theorem trunks_law {a b : List Mod} (c : Int) (ha : checkF a = 0) (hb : checkF b = 0) (hl : ¬ 2000 < a.length + b.length) : TrunksOk a b c := by
  have hw := check_join ha hb hl
  have hz : sumD a = 0 := by
    have := scan_sum (check_parts.1 ha).2.2
    omega
  have ht : trunk 0 (a ++ b) = trunk 0 a ++ trunk 0 b := by rw [trunk_more, hz]; rfl
  obtain ⟨t1, t2, t3⟩ := trunk_check hw
  rw [ht] at t1 t2 t3
  have l1 := trunk_len a 0
  have l2 := trunk_len b 0
  refine ⟨stripF_ok ha, stripF_ok hb, by rw [stripF_ok hw, ht], joinRes_ok (trunk_check ha).1 (trunk_check hb).1 (by omega), ?_, ?_, ?_, ?_, ?_, countF_more c a b⟩
  · unfold depthF; rw [if_pos ha]
  · unfold depthF; rw [if_pos hb]
  · unfold depthF
    have h0 := deep_ge a 0 0
    rw [if_pos hw, deep_more, hz, Int.add_zero, ← deep_max, show max (deep 0 0 a) 0 = deep 0 0 a from by omega]
  · unfold depthF; rw [if_pos t1, t3]
  · rw [stripF_ok t1, t2]
end Go.Proofs.YtmcgfhgpldfknaaDoor
