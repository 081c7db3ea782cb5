/-
  Layer 17: when a track is in order; the walks of the program's checked and of the reference's Check.
-/
import Derived.Test.YtldccpmnboebmaaDoorVp
import Derived.Test.YtldccpmnboebmaaDoorLz
namespace Go.Proofs.YtldccpmnboebmaaDoor
open Go.RowKit Go.Sort
set_option linter.unusedVariables false

def badL (t : Trk) : Bool := t.lines.any fun l => !lnOk l
def badM (t : Trk) : Bool := t.marks.any fun m => !mkOk m
def checkT (t : Trk) : Int := if badL t = false ∧ badM t = false ∧ checkFr t.fr = 0 ∧ t.lines.length ≤ 2000 ∧ t.marks.length ≤ 2000 then 0 else 8
theorem checkT_bad {t : Trk} (h : badL t = true ∨ badM t = true ∨ checkFr t.fr ≠ 0 ∨ 2000 < t.lines.length ∨ 2000 < t.marks.length) : checkT t = 8 := by
  unfold checkT
  refine if_neg ?_
  rintro ⟨h1, h2, h3, h4, h5⟩
  rcases h with h | h | h | h | h
  · rw [h1] at h; cases h
  · rw [h2] at h; cases h
  · exact h h3
  · omega
  · omega
theorem checkT_ok {t : Trk} (h : checkT t = 0) : badL t = false ∧ badM t = false ∧ checkFr t.fr = 0 ∧ t.lines.length ≤ 2000 ∧ t.marks.length ≤ 2000 := by
  unfold checkT at h
  split at h
  · assumption
  · cases h
theorem checkT_cases (t : Trk) : checkT t = 0 ∨ checkT t = 8 := by
  unfold checkT
  split
  · exact .inl rfl
  · exact .inr rfl

set_option maxRecDepth 100000 in
set_option maxHeartbeats 4000000 in
theorem checked_calls (A : Option Addr) (c : Nat) (B : Option Addr) (d : Nat) (t : Trk) (w : World) (hl : SlAt pLn (Old w) w A c t.lines) (hm : SlAt pMk (Old w) w B d t.marks) : Calls Tryd.prog 29 #[.agg #[.slice A t.lines.length c, .slice B t.marks.length d, .int .u8 t.fr.1, .int .i64 t.fr.2.1, .int .i64 t.fr.2.2.1, .int .i64 t.fr.2.2.2, .int .i64 t.drawn]] w (IntPost (checkT t) w) := by
  have q1 := hl.lenle
  have q2 := hm.lenle
  obtain ⟨W, hW⟩ : ∃ W, W = w.alloc (.cells #[.slice A t.lines.length c, .slice B t.marks.length d, .int .u8 t.fr.1, .int .i64 t.fr.2.1, .int .i64 t.fr.2.2.1, .int .i64 t.fr.2.2.2, .int .i64 t.drawn] 36) := ⟨_, rfl⟩
  have hb : Blk W w.heap.size 36 #[.slice A t.lines.length c, .slice B t.marks.length d, .int .u8 t.fr.1, .int .i64 t.fr.2.1, .int .i64 t.fr.2.2.1, .int .i64 t.fr.2.2.2, .int .i64 t.drawn] := by rw [hW]; exact Blk.new _ _ _
  have t0 : RowKit.Below w.heap.size w W := by rw [hW]; exact al1
  have hl' : ∀ W', RowKit.Below w.heap.size w W' → SlAt pLn (Old W') W' A c t.lines := fun W' h => hl.later h
  have hm' : ∀ W', RowKit.Below w.heap.size w W' → SlAt pMk (Old W') W' B d t.marks := fun W' h => hm.later h
  have f1 := fun W' h => hasLn_calls A c t.lines W' (hl' W' h)
  have f2 := fun W' h => hasMk_calls B d t.marks W' (hm' W' h)
  have f3 := fun W' => fCheck_calls t.fr W'
  have hbad := @checkT_bad t
  have hgood : badL t = false → badM t = false → checkFr t.fr = 0 → t.lines.length ≤ 2000 → t.marks.length ≤ 2000 → checkT t = 0 := fun h1 h2 h3 h4 h5 => if_pos ⟨h1, h2, h3, h4, h5⟩
  obtain ⟨b1, e1⟩ : ∃ b, badL t = b := ⟨_, rfl⟩
  obtain ⟨b2, e2⟩ : ∃ b, badM t = b := ⟨_, rfl⟩
  obtain ⟨z, e3⟩ : ∃ z, checkFr t.fr = z := ⟨_, rfl⟩
  have e1' : (t.lines.any fun l => !lnOk l) = b1 := e1
  have e2' : (t.marks.any fun m => !mkOk m) = b2 := e2
  rw [e1, e2, e3] at hbad hgood
  rw [e1'] at f1
  rw [e2'] at f2
  rw [e3] at f3
  have y0 := hb.cell 0
  have Hb := Lib.hid hb; clear hb
  have T0 := Lib.hid t0; clear t0
  have Hl := Lib.hid hl; clear hl
  have Hm := Lib.hid hm; clear hm
  have Hl' := Lib.hid hl'; clear hl'
  have Hm' := Lib.hid hm'; clear hm'
  have F1 := Lib.hid f1; clear f1
  have F2 := Lib.hid f2; clear f2
  have F3 := Lib.hid f3; clear f3
  have Hbad := Lib.hid hbad; clear hbad
  have Hgood := Lib.hid hgood; clear hgood
  have E1 := Lib.hid e1; clear e1
  have E2 := Lib.hid e2; clear e2
  have E3 := Lib.hid e3; clear e3
  have E1' := Lib.hid e1'; clear e1'
  have E2' := Lib.hid e2'; clear e2'
  go_enter Tryd.func29, Tryd.ntmps29
  go_wp2_with fail
  (try rw [← hW])
  refine (F1.out _ T0.out).mono ?_
  rintro e w1 ⟨rfl, d1⟩
  have k1 := Hb.out.same (d1.block _ Hb.out.lt)
  have t1 := T0.out.trans (d1.mono T0.out.size)
  clear y0
  have y1 := k1.cell 1
  have K1 := Lib.hid k1; clear k1
  have T1 := Lib.hid t1; clear t1
  clear d1
  go_wp2_with fail
  refine (F2.out _ T1.out).mono ?_
  rintro e w2 ⟨rfl, d2⟩
  have k2 := K1.out.same (d2.block _ K1.out.lt)
  have t2 := T1.out.trans (d2.mono T1.out.size)
  clear y1
  have y0 := k2.cell 0
  have y1 := k2.cell 1
  have y2 := k2.cell 2
  have y3 := k2.cell 3
  have y4 := k2.cell 4
  have y5 := k2.cell 5
  have K2 := Lib.hid k2; clear k2
  have T2 := Lib.hid t2; clear t2
  clear d2
  cases b1
  case true =>
    have hr := Hbad.out (.inl rfl)
    have Hr := Lib.hid hr; clear hr
    go_wp2
    go_ret
    exact ⟨by rw [Hr.out]; rfl, T2.out⟩
  case false =>
    cases b2
    case true =>
      have hr := Hbad.out (.inr (.inl rfl))
      have Hr := Lib.hid hr; clear hr
      go_wp2
      go_ret
      exact ⟨by rw [Hr.out]; rfl, T2.out⟩
    case false =>
      go_wp2_with fail
      refine (F3.out _).mono ?_
      rintro e w3 ⟨rfl, d3⟩
      have k3 := K2.out.same (d3.block _ K2.out.lt)
      have t3 := T2.out.trans (d3.mono T2.out.size)
      clear y0 y1 y2 y3 y4 y5
      have y0 := k3.cell 0
      have y1 := k3.cell 1
      have K3 := Lib.hid k3; clear k3
      have T3 := Lib.hid t3; clear t3
      clear d3
      by_cases hz : z = 0
      case neg =>
        have hr := Hbad.out (.inr (.inr (.inl hz)))
        have hz' : (z != 0) = true := by simpa using hz
        have Hr := Lib.hid hr; clear hr
        go_wp2
        go_ret
        exact ⟨by rw [Hr.out]; rfl, T3.out⟩
      case pos =>
        subst hz
        by_cases h4 : t.lines.length ≤ 2000 ∧ t.marks.length ≤ 2000
        case pos =>
          have hr := Hgood.out (by simp) (by simp) (by simp) h4.1 h4.2
          obtain ⟨h4, h5⟩ := h4
          have hmx : max (t.lines.length : Int) (t.marks.length : Int) ≤ 2000 := by omega
          have Hr := Lib.hid hr; clear hr
          go_wp2
          all_goals
            first
            | (exfalso; omega)
            | (go_ret; exact ⟨by rw [Hr.out]; rfl, T3.out⟩)
        case neg =>
          have hr := Hbad.out (.inr (.inr (.inr (by omega))))
          have h4' : 2000 < t.lines.length ∨ 2000 < t.marks.length := by omega
          clear h4
          have Hr := Lib.hid hr; clear hr
          go_wp2
          all_goals
            first
            | (exfalso; omega)
            | (go_ret; exact ⟨by rw [Hr.out]; rfl, T3.out⟩)
end Go.Proofs.YtldccpmnboebmaaDoor
