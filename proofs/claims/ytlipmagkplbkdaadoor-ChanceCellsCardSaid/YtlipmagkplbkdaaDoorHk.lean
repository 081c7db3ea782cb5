/-
  Layer 9: the walk of ChanceCells.
-/
import Derived.Test.YtlipmagkplbkdaaDoorHg
import Derived.Test.YtlipmagkplbkdaaDoorHj
import Derived.Test.YtlipmagkplbkdaaDoorFi
namespace Go.Proofs.YtlipmagkplbkdaaDoor
open Go.RowKit Go.Sort
set_option linter.unusedVariables false

theorem great_noC {ms : List Mod} (h : greatF ms = false) : ms.length ≤ 10000 ∧ ∀ m ∈ ms, m.args.length ≤ 1000 := by
  unfold greatF at h
  rw [Bool.or_eq_false_iff] at h
  obtain ⟨h1, h2⟩ := h
  have h1' := of_decide_eq_false h1
  refine ⟨by omega, fun m hm => ?_⟩
  have := List.any_eq_false.1 h2 m hm
  simp at this
  omega
set_option maxRecDepth 100000 in
set_option maxHeartbeats 4000000 in
theorem chanceCells_walk (A : Option Addr) (c : Nat) (rs : List Rul) (B : Option Addr) (d : Nat) (l : List Cel) (D : Option Addr) (q : Nat) (ms : List Mod) (w : World) (h : SlAt pRul (Old w) w A c rs) (h1 : SlAt pCel (Old w) w B d l) (h2 : SlAt pMod (Old w) w D q ms) (ht : TabAt w) (hg : GAt w) :
    Calls Tryd.prog 4 #[.slice A rs.length c, .slice B l.length d, .slice D ms.length q] w (OkPost w) := by
  have hx := h.lenle
  have hy := h1.lenle
  have hz := h2.lenle
  have g1 := greatR_calls A c rs w h
  have g2 := greatC_calls B d l w h1
  have g3 := great_calls D q ms w h2
  unfold GreatPost at g1
  have H := Lib.hid h; clear h
  have H1 := Lib.hid h1; clear h1
  have H2 := Lib.hid h2; clear h2
  have Ht := Lib.hid ht; clear ht
  have Hg := Lib.hid hg; clear hg
  have G1 := Lib.hid g1; clear g1
  have G2 := Lib.hid g2; clear g2
  have G3 := Lib.hid g3; clear g3
  cases e1 : greatR rs
  case true =>
    rw [e1] at G1
    go_enter Tryd.func4, Tryd.ntmps4
    go_wp2_with fail
    refine G1.out.mono ?_
    rintro e w' ⟨rfl, rfl⟩
    go_wp2
    go_ret
    exact ⟨rfl, Below.refl _ _⟩
  rw [e1] at G1
  have hsm := small_of e1
  have Hsm := Lib.hid hsm; clear hsm
  clear e1
  cases e2 : greatL l
  case true =>
    rw [e2] at G2
    go_enter Tryd.func4, Tryd.ntmps4
    go_wp2_with fail
    refine G1.out.mono ?_
    rintro e w' ⟨rfl, rfl⟩
    go_wp2_with fail
    refine G2.out.mono ?_
    rintro e w' ⟨rfl, rfl⟩
    go_wp2
    go_ret
    exact ⟨rfl, Below.refl _ _⟩
  rw [e2] at G2
  obtain ⟨_, _, hla⟩ := greatL_no e2
  have hla' : ∀ x ∈ l, x.mod.args.length ≤ 1000 := fun x hx => Nat.le_trans (hla x hx) (by decide)
  clear e2 hla
  have Hla' := Lib.hid hla'; clear hla'
  cases e3 : greatF ms
  case true =>
    rw [e3] at G3
    go_enter Tryd.func4, Tryd.ntmps4
    go_wp2_with fail
    refine G1.out.mono ?_
    rintro e w' ⟨rfl, rfl⟩
    go_wp2_with fail
    refine G2.out.mono ?_
    rintro e w' ⟨rfl, rfl⟩
    go_wp2_with fail
    refine G3.out.mono ?_
    rintro e w' ⟨rfl, rfl⟩
    go_wp2
    go_ret
    exact ⟨rfl, Below.refl _ _⟩
  rw [e3] at G3
  obtain ⟨hml, hma⟩ := great_noC e3
  clear e3
  have b1 := begin_calls D q ms w H2.out hml hma Ht.out Hg.out
  obtain ⟨⟨L, er⟩, hr⟩ : ∃ r, beginR ms = r := ⟨_, rfl⟩
  rw [hr] at b1
  have Hma := Lib.hid hma; clear hma
  have Hr := Lib.hid hr; clear hr
  have B1 := Lib.hid b1; clear b1
  go_enter Tryd.func4, Tryd.ntmps4
  go_wp2_with fail
  refine G1.out.mono ?_
  rintro e w' ⟨rfl, rfl⟩
  go_wp2_with fail
  refine G2.out.mono ?_
  rintro e w' ⟨rfl, rfl⟩
  go_wp2_with fail
  refine G3.out.mono ?_
  rintro e w' ⟨rfl, rfl⟩
  go_wp2_with fail
  refine B1.out.mono ?_
  rintro e w1 ⟨A1, c1, rfl, s1, b1⟩
  have b2 := refBegin_calls D q ms w1 (H2.out.later b1) hml Hma.out
  rw [Hr.out] at b2
  have z1 := b1.size
  clear B1 G1 G2 G3
  have S1 := Lib.hid s1; clear s1
  have B1 := Lib.hid b1; clear b1
  have B2 := Lib.hid b2; clear b2
  simp only
  go_wp2_with fail
  refine B2.out.mono ?_
  rintro e w2 ⟨A2, c2, rfl, s2, k2⟩
  have t2 := B1.out.trans (k2.mono z1)
  have z2 := t2.size
  have s1' := S1.out.later k2
  have b3 := word_calls B d l w2 (H1.out.later t2) Hla'.out
  obtain ⟨⟨M, em⟩, hm⟩ : ∃ r, wordR l = r := ⟨_, rfl⟩
  rw [hm] at b3
  clear S1 B2 k2
  have S1' := Lib.hid s1'; clear s1'
  have S2 := Lib.hid s2; clear s2
  have T2 := Lib.hid t2; clear t2
  have B3 := Lib.hid b3; clear b3
  have Hm := Lib.hid hm; clear hm
  go_wp2_with fail
  refine B3.out.mono ?_
  rintro e w3 ⟨A3, c3, rfl, s3, k3⟩
  have t3 := T2.out.trans (k3.mono z2)
  have z3 := t3.size
  have u1 := S1'.out.later k3
  have u2 := S2.out.later k3
  have b4 := refWord_calls B d l w3 (H1.out.later t3) Hla'.out
  rw [Hm.out] at b4
  clear S1' S2 B3 k3
  have U1 := Lib.hid u1; clear u1
  have U2 := Lib.hid u2; clear u2
  have S3 := Lib.hid s3; clear s3
  have T3 := Lib.hid t3; clear t3
  have B4 := Lib.hid b4; clear b4
  go_wp2_with fail
  refine B4.out.mono ?_
  rintro e w4 ⟨A4, c4, rfl, s4, k4⟩
  have t4 := T3.out.trans (k4.mono z3)
  have z4 := t4.size
  have v1 := U1.out.later k4
  have v2 := U2.out.later k4
  have v3 := S3.out.later k4
  have b5 := checkC_calls A c rs w4 (H.out.later t4) Hsm.out
  generalize hck : checkC rs = ck at b5
  clear U1 U2 S3 B4 k4
  have V1 := Lib.hid v1; clear v1
  have V2 := Lib.hid v2; clear v2
  have V3 := Lib.hid v3; clear v3
  have S4 := Lib.hid s4; clear s4
  have T4 := Lib.hid t4; clear t4
  have B5 := Lib.hid b5; clear b5
  have Hck := Lib.hid hck; clear hck
  go_wp2_with fail
  refine B5.out.mono ?_
  rintro e w5 ⟨rfl, k5⟩
  have t5 := T4.out.trans (k5.mono z4)
  have z5 := t5.size
  have x1 := V1.out.later k5
  have x2 := V2.out.later k5
  have x3 := V3.out.later k5
  have x4 := S4.out.later k5
  have b6 := refCheckC_calls A c rs w5 (H.out.later t5) Hsm.out
  rw [Hck.out] at b6
  clear V1 V2 V3 S4 B5 k5
  have X1 := Lib.hid x1; clear x1
  have X2 := Lib.hid x2; clear x2
  have X3 := Lib.hid x3; clear x3
  have X4 := Lib.hid x4; clear x4
  have T5 := Lib.hid t5; clear t5
  have B6 := Lib.hid b6; clear b6
  go_wp2_with fail
  refine B6.out.mono ?_
  rintro e w6 ⟨rfl, k6⟩
  have t6 := T5.out.trans (k6.mono z5)
  have z6 := t6.size
  have y1 := X1.out.later k6
  have y2 := X2.out.later k6
  have y3 := X3.out.later k6
  have y4 := X4.out.later k6
  have b7 := cells_calls B d l w6 (H1.out.later t6)
  generalize hcl : cellsR l = cl at b7
  clear X1 X2 X3 X4 B6 k6
  have Y1 := Lib.hid y1; clear y1
  have Y2 := Lib.hid y2; clear y2
  have Y3 := Lib.hid y3; clear y3
  have Y4 := Lib.hid y4; clear y4
  have T6 := Lib.hid t6; clear t6
  have B7 := Lib.hid b7; clear b7
  have Hcl := Lib.hid hcl; clear hcl
  go_wp2_with fail
  refine B7.out.mono ?_
  rintro e w7 ⟨rfl, k7⟩
  have t7 := T6.out.trans (k7.mono z6)
  have z7 := t7.size
  have u1 := Y1.out.later k7
  have u2 := Y2.out.later k7
  have u3 := Y3.out.later k7
  have u4 := Y4.out.later k7
  have b8 := refCells_calls B d l w7 (H1.out.later t7)
  rw [Hcl.out] at b8
  clear Y1 Y2 Y3 Y4 B7 k7
  have U1 := Lib.hid u1; clear u1
  have U2 := Lib.hid u2; clear u2
  have U3 := Lib.hid u3; clear u3
  have U4 := Lib.hid u4; clear u4
  have T7 := Lib.hid t7; clear t7
  have B8 := Lib.hid b8; clear b8
  go_wp2_with fail
  refine B8.out.mono ?_
  rintro e w8 ⟨rfl, k8⟩
  have t8 := T7.out.trans (k8.mono z7)
  have z8 := t8.size
  have v1 := U1.out.later k8
  have v2 := U2.out.later k8
  have v3 := U3.out.later k8
  have v4 := U4.out.later k8
  have b9 := sameC_calls A1 A2 c1 c2 L L w8 v1 v2
  rw [show (L == L) = true from beq_self_eq_true L] at b9
  clear U1 U2 U3 U4 B8 k8 v1 v2
  have V3 := Lib.hid v3; clear v3
  have V4 := Lib.hid v4; clear v4
  have T8 := Lib.hid t8; clear t8
  have B9 := Lib.hid b9; clear b9
  go_wp2_with fail
  refine B9.out.mono ?_
  rintro e w9 ⟨rfl, k9⟩
  have t9 := T8.out.trans (k9.mono z8)
  have z9 := t9.size
  have b10 := refSame_calls A3 A4 c3 c4 M M w9 (V3.out.later k9) (V4.out.later k9)
  rw [show (M == M) = true from beq_self_eq_true M] at b10
  clear V3 V4 B9 k9
  have T9 := Lib.hid t9; clear t9
  have B10 := Lib.hid b10; clear b10
  go_wp2_with fail
  refine B10.out.mono ?_
  rintro e w10 ⟨rfl, k10⟩
  have t10 := T9.out.trans (k10.mono z9)
  have T10 := Lib.hid t10; clear t10
  go_wp2
  go_ret
  exact ⟨rfl, T10.out⟩
end Go.Proofs.YtlipmagkplbkdaaDoor
