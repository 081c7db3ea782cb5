/-
  RewriteRuns, RewriteJoins, the walks of the laws: they return true.
-/
import Derived.Test.YtmcgfhgpldfknaaDoorQb
namespace Go.Proofs.YtmcgfhgpldfknaaDoor
open Go.RowKit Go.Sort
set_option linter.unusedVariables false

theorem runF_len {rs : List Rul} {ms : List Mod} {n : Nat} (ho : openR rs ms = 0) (hn : n ≤ 30) (hm : ms.length ≤ 2000) : (rRunF rs ms (n : Int)).1.length ≤ 2000 := by
  rw [rRunF_of ho hn]
  have step : ∀ (n : Nat) (ms : List Mod), ms.length ≤ 2000 → (iterR rs n ms).1.length ≤ 2000 := by
    intro n
    induction n with
    | zero => intro ms h; exact h
    | succ n ih =>
      intro ms h
      rw [iterR_step]
      split
      · rename_i h2
        refine ih _ ?_
        obtain ⟨_, h3, h4⟩ := stepF_ok h2
        rw [h4, List.length_map]; exact h3
      · simp
  exact step n ms hm

set_option maxRecDepth 100000 in
set_option maxHeartbeats 8000000 in
theorem rewriteRuns_walk (A : Option Addr) (c : Nat) (rs : List Rul) (B : Option Addr) (cb : Nat) (ms : List Mod) (m n : Int) (w : World) (h : SlAt pRul (Old w) w A c rs) (h1 : SlAt pMod (Old w) w B cb ms) (hm : Fits .i64 m) (hn : Fits .i64 n) (hL : LibAt w) :
    Calls Tryd.prog 3 #[.slice A rs.length c, .slice B ms.length cb, .int .i64 m, .int .i64 n] w (OkPost w) := by
  have hmx := h.lenle
  have hmy := h1.lenle
  have hm' := hm.i64
  have hn' := hn.i64
  have H := Lib.hid h; clear h
  have H1 := Lib.hid h1; clear h1
  have HL := Lib.hid hL; clear hL
  have out : ∀ (W : World), Below w.heap.size w W → Calls Tryd.prog 9 #[] W fun e W' => e = .returned (.bool true) ∧ Hid (Below w.heap.size w W') := fun W hW => (alive_calls W (HL.out.later hW)).mono fun e W' hh => ⟨hh.1, hW.trans (hh.2.mono hW.size)⟩
  have Out := Lib.hid out; clear out
  cases hv : validQ rs ms
  · go_enter Tryd.func3, Tryd.ntmps3
    go_wp2_with fail
    refine (valid_calls A c rs B cb ms w H.out H1.out).mono ?_
    rintro e w1 ⟨rfl, b1⟩
    rw [hv]
    go_wp2_with fail
    refine (Out.out w1 b1).mono ?_
    rintro e w2 ⟨rfl, b2⟩
    go_wp2
    go_ret
    exact ⟨rfl, b2.out⟩
  obtain ⟨hs, hr, hw⟩ := validQ_yes hv
  by_cases hrange : m < 0 ∨ (¬ m < 0 ∧ (3 < m ∨ (¬ 3 < m ∧ (n < 0 ∨ (¬ n < 0 ∧ 3 < n)))))
  · have Hs := Lib.hid hs; clear hs
    have Hr := Lib.hid hr; clear hr
    have Hw := Lib.hid hw; clear hw
    rcases hrange with hr | ⟨hr, hr2 | ⟨hr2, hr3 | ⟨hr3, hr4⟩⟩⟩
    all_goals
      go_enter Tryd.func3, Tryd.ntmps3
      go_wp2_with fail
      refine (valid_calls A c rs B cb ms w H.out H1.out).mono ?_
      rintro e w1 ⟨rfl, b1⟩
      rw [hv]
      go_wp2_with fail
      refine (Out.out w1 b1).mono ?_
      rintro e w2 ⟨rfl, b2⟩
      go_wp2
      go_ret
      exact ⟨rfl, b2.out⟩
  obtain ⟨m, rfl⟩ := Int.eq_ofNat_of_zero_le (show 0 ≤ m by omega)
  obtain ⟨n, rfl⟩ := Int.eq_ofNat_of_zero_le (show 0 ≤ n by omega)
  have lm : m ≤ 3 := by omega
  have ln : n ≤ 3 := by omega
  clear hrange hm' hn'
  obtain ⟨l0, lb, lg⟩ := runs_law (m := m) (n := n) hr hw lm ln
  have hsum : Fits .i64 ((m : Int) + (n : Int)) := fits_i64 (by omega)
  have ho := openR_of hr hw
  have hz1 := runF_len ho (n := m) (by omega) (check_len hw)
  have e4 : ((m : Int) + (n : Int)) = ((m + n : Nat) : Int) := by omega
  obtain ⟨⟨x, e1⟩, hx⟩ : ∃ q, rRunF rs ms (m : Int) = q := ⟨_, rfl⟩
  obtain ⟨⟨z, e3⟩, hz⟩ : ∃ q, rRunF rs ms ((m + n : Nat) : Int) = q := ⟨_, rfl⟩
  rw [hx] at lb lg hz1
  rw [hz] at lb lg
  dsimp only at lb lg hz1
  have cx := fun W (hW : Below w.heap.size w W) => rRun_calls A c rs B cb ms (m : Int) W (H.out.later hW) (H1.out.later hW) hs hm
  have cz := fun W (hW : Below w.heap.size w W) => rRun_calls A c rs B cb ms ((m : Int) + (n : Int)) W (H.out.later hW) (H1.out.later hW) hs hsum
  have c0 := fun W (hW : Below w.heap.size w W) => rRun_calls A c rs B cb ms ((0 : Nat) : Int) W (H.out.later hW) (H1.out.later hW) hs (fits_i64 (by omega))
  unfold RRunPost at cx cz c0
  rw [hx] at cx
  rw [e4, hz] at cz
  rw [← e4] at cz
  rw [l0] at c0
  have i0 : (0 : Int) ≤ (m : Int) := Int.natCast_nonneg _
  have i1 : (0 : Int) ≤ (n : Int) := Int.natCast_nonneg _
  have i2 : ¬ (3 : Int) < (m : Int) := by omega
  have i3 : ¬ (3 : Int) < (n : Int) := by omega
  have i4 : ¬ (m : Int) < 0 := by omega
  have i5 : ¬ (n : Int) < 0 := by omega
  have iw : IntKind.i64.wrap ((m : Int) + (n : Int)) = (m : Int) + (n : Int) := IntWalk.i64_in _ (by omega)
  have Cx := Lib.hid cx; clear cx
  have Cz := Lib.hid cz; clear cz
  have C0 := Lib.hid c0; clear c0
  have Lb := Lib.hid lb; clear lb
  have Lg := Lib.hid lg; clear lg
  have Hx := Lib.hid hx; clear hx
  have Hz := Lib.hid hz; clear hz
  have Hs := Lib.hid hs; clear hs
  have Hr := Lib.hid hr; clear hr
  have Hw := Lib.hid hw; clear hw
  have L0 := Lib.hid l0; clear l0
  have Ho := Lib.hid ho; clear ho
  have E4 := Lib.hid e4; clear e4
  go_enter Tryd.func3, Tryd.ntmps3
  go_wp2_with fail
  refine (valid_calls A c rs B cb ms w H.out H1.out).mono ?_
  rintro e w1 ⟨rfl, b1⟩
  rw [hv]
  have T1 := Lib.hid b1; clear b1
  clear hv
  go_wp2_with fail
  refine (Cx.out w1 T1.out).mono ?_
  rintro e w2 ⟨A2, c2, rfl, o2, b2⟩
  have T2 := Lib.hid (T1.out.trans (b2.mono T1.out.size))
  have S2 := Lib.hid (ownF_sl o2); clear b2 o2
  have cy := rRun_calls A c rs A2 c2 x (n : Int) w2 (H.out.later T2.out) S2.out Hs.out hn
  unfold RRunPost at cy
  obtain ⟨⟨y, e2⟩, hy⟩ : ∃ q, rRunF rs x (n : Int) = q := ⟨_, rfl⟩
  rw [hy] at cy
  have Cy := Lib.hid cy; clear cy
  go_wp2_with fail
  refine Cy.out.mono ?_
  rintro e w3 ⟨A3, c3, rfl, o3, b3⟩
  have T3 := Lib.hid (T2.out.trans (b3.mono T2.out.size))
  have S3 := Lib.hid (ownF_sl o3); clear b3 o3
  go_wp2_with fail
  refine (Cz.out w3 T3.out).mono ?_
  rintro e w4 ⟨A4, c4, rfl, o4, b4⟩
  have T4 := Lib.hid (T3.out.trans (b4.mono T3.out.size))
  have S34 := Lib.hid (S3.out.later b4)
  have S4 := Lib.hid (ownF_sl o4); clear b4 o4 S3
  go_wp2_with fail
  refine (C0.out w4 T4.out).mono ?_
  rintro e w5 ⟨A5, c5, rfl, o5, b5⟩
  have T5 := Lib.hid (T4.out.trans (b5.mono T4.out.size))
  have S35 := Lib.hid (S34.out.later b5)
  have S45 := Lib.hid (S4.out.later b5)
  have S5 := Lib.hid (ownF_sl o5); clear b5 o5 S34 S4
  have p6 := refSame_calls A5 B c5 cb ms ms w5 S5.out (H1.out.later T5.out)
  rw [beq_self_eq_true] at p6
  have P6 := Lib.hid p6; clear p6
  go_wp2_with fail
  refine P6.out.mono ?_
  rintro e w6 ⟨rfl, b6⟩
  have T6 := Lib.hid (T5.out.trans (b6.mono T5.out.size))
  have S36 := Lib.hid (S35.out.later b6)
  have S46 := Lib.hid (S45.out.later b6); clear b6 S35 S45 S5
  by_cases h1 : e1 = 0
  · subst h1
    obtain ⟨hyz, hck⟩ := Lg.out rfl
    have hyz2 : (y, e2) = (z, e3) := by rw [← hy, hyz]
    obtain ⟨rfl, rfl⟩ : y = z ∧ e2 = e3 := by cases hyz2; exact ⟨rfl, rfl⟩
    have eb : (e2 == e2) = true := beq_self_eq_true _
    have p7 := refSame_calls A3 A4 c3 c4 y y w6 S36.out S46.out
    rw [beq_self_eq_true] at p7
    have P7 := Lib.hid p7; clear p7
    have Hyz := Lib.hid hyz; clear hyz
    have Hyz2 := Lib.hid hyz2; clear hyz2
    have Hy := Lib.hid hy; clear hy
    by_cases h3 : e2 = 0
    · subst h3
      have hk := hck rfl
      have p8 := fun W (hW : Below w6.heap.size w6 W) => wordCheck_calls A4 c4 y W (S46.out.later hW)
      unfold CheckPost at p8
      rw [hk] at p8
      have P8 := Lib.hid p8; clear p8
      have Hck := Lib.hid hck; clear hck
      have Hk := Lib.hid hk; clear hk
      go_wp2_with fail
      refine P7.out.mono ?_
      rintro e w7 ⟨rfl, b7⟩
      have T7 := Lib.hid (T6.out.trans (b7.mono T6.out.size))
      have U7 := Lib.hid b7; clear b7
      go_wp2_with fail
      refine (P8.out w7 U7.out).mono ?_
      rintro e w8 ⟨rfl, b8⟩
      have T8 := Lib.hid (T7.out.trans (b8.mono T7.out.size)); clear b8
      go_wp2_with fail
      refine (Out.out w8 T8.out).mono ?_
      rintro e w9 ⟨rfl, b9⟩
      go_wp2
      go_ret
      exact ⟨rfl, b9.out⟩
    · have en : (e2 != 0) = true := by simpa using h3
      clear h3
      have Hck := Lib.hid hck; clear hck
      go_wp2_with fail
      refine P7.out.mono ?_
      rintro e w7 ⟨rfl, b7⟩
      have T7 := Lib.hid (T6.out.trans (b7.mono T6.out.size)); clear b7
      go_wp2_with fail
      refine (Out.out w7 T7.out).mono ?_
      rintro e w9 ⟨rfl, b9⟩
      go_wp2
      go_ret
      exact ⟨rfl, b9.out⟩
  · have en : (e1 != 0) = true := by simpa using h1
    have he3 := Lb.out h1
    have eb : (e3 == e1) = true := by rw [he3]; exact beq_self_eq_true _
    clear h1 he3
    go_wp2_with fail
    refine (Out.out w6 T6.out).mono ?_
    rintro e w9 ⟨rfl, b9⟩
    go_wp2
    go_ret
    exact ⟨rfl, b9.out⟩

set_option maxRecDepth 100000 in
set_option maxHeartbeats 8000000 in
theorem rewriteJoins_walk (A : Option Addr) (c : Nat) (rs : List Rul) (B : Option Addr) (cb : Nat) (us : List Mod) (C : Option Addr) (cc : Nat) (vs : List Mod) (w : World) (h : SlAt pRul (Old w) w A c rs) (h1 : SlAt pMod (Old w) w B cb us) (h2 : SlAt pMod (Old w) w C cc vs) (hL : LibAt w) :
    Calls Tryd.prog 5 #[.slice A rs.length c, .slice B us.length cb, .slice C vs.length cc] w (OkPost w) := by
  have hmx := h.lenle
  have hmy := h1.lenle
  have hmz := h2.lenle
  have H := Lib.hid h; clear h
  have H1 := Lib.hid h1; clear h1
  have H2 := Lib.hid h2; clear h2
  have HL := Lib.hid hL; clear hL
  have out : ∀ (W : World), Below w.heap.size w W → Calls Tryd.prog 9 #[] W fun e W' => e = .returned (.bool true) ∧ Hid (Below w.heap.size w W') := fun W hW => (alive_calls W (HL.out.later hW)).mono fun e W' hh => ⟨hh.1, hW.trans (hh.2.mono hW.size)⟩
  have Out := Lib.hid out; clear out
  cases hv : validQ rs us
  · go_enter Tryd.func5, Tryd.ntmps5
    go_wp2_with fail
    refine (valid_calls A c rs B cb us w H.out H1.out).mono ?_
    rintro e w1 ⟨rfl, b1⟩
    rw [hv]
    go_wp2_with fail
    refine (Out.out w1 b1).mono ?_
    rintro e w2 ⟨rfl, b2⟩
    go_wp2
    go_ret
    exact ⟨rfl, b2.out⟩
  cases hv2 : validQ rs vs
  · go_enter Tryd.func5, Tryd.ntmps5
    go_wp2_with fail
    refine (valid_calls A c rs B cb us w H.out H1.out).mono ?_
    rintro e w1 ⟨rfl, b1⟩
    rw [hv]
    have T1 := Lib.hid b1; clear b1
    go_wp2_with fail
    refine (valid_calls A c rs C cc vs w1 (H.out.later T1.out) (H2.out.later T1.out)).mono ?_
    rintro e w2 ⟨rfl, b2⟩
    rw [hv2]
    have T2 := Lib.hid (T1.out.trans (b2.mono T1.out.size)); clear b2
    go_wp2_with fail
    refine (Out.out w2 T2.out).mono ?_
    rintro e w3 ⟨rfl, b3⟩
    go_wp2
    go_ret
    exact ⟨rfl, b3.out⟩
  obtain ⟨hs, hr, hw1⟩ := validQ_yes hv
  obtain ⟨_, _, hw2⟩ := validQ_yes hv2
  have au : ∀ m ∈ us, m.args.length ≤ 1000 := fun m hm => by have := (fine_args (List.all_eq_true.1 (check_all hw1) m hm)).2; omega
  have av : ∀ m ∈ vs, m.args.length ≤ 1000 := fun m hm => by have := (fine_args (List.all_eq_true.1 (check_all hw2) m hm)).2; omega
  have lu := check_len hw1
  have lv := check_len hw2
  have hjc := fun W (hW : Below w.heap.size w W) => join_calls B C cb cc us vs W (H1.out.later hW) (H2.out.later hW) (by omega) (by omega) au av
  unfold JoinPost at hjc
  have hcommon : True := trivial
  by_cases hbig : 2000 < us.length + vs.length
  · rw [joinRes_many hw1 hw2 hbig] at hjc
    have Hjc := Lib.hid hjc; clear hjc
    have Hs := Lib.hid hs; clear hs
    have Hr := Lib.hid hr; clear hr
    have Hw1 := Lib.hid hw1; clear hw1
    have Hw2 := Lib.hid hw2; clear hw2
    have Au := Lib.hid au; clear au
    have Av := Lib.hid av; clear av
    go_enter Tryd.func5, Tryd.ntmps5
    go_wp2_with fail
    refine (valid_calls A c rs B cb us w H.out H1.out).mono ?_
    rintro e w1 ⟨rfl, b1⟩
    rw [hv]
    have T1 := Lib.hid b1; clear b1
    go_wp2_with fail
    refine (valid_calls A c rs C cc vs w1 (H.out.later T1.out) (H2.out.later T1.out)).mono ?_
    rintro e w2 ⟨rfl, b2⟩
    rw [hv2]
    have T2 := Lib.hid (T1.out.trans (b2.mono T1.out.size)); clear b2
    go_wp2_with fail
    refine (Hjc.out w2 T2.out).mono ?_
    rintro e w3 ⟨A3, c3, rfl, _, b3⟩
    have T3 := Lib.hid (T2.out.trans (b3.mono T2.out.size)); clear b3
    go_wp2_with fail
    refine (Out.out w3 T3.out).mono ?_
    rintro e w4 ⟨rfl, b4⟩
    go_wp2
    go_ret
    exact ⟨rfl, b4.out⟩
  rw [joinRes_ok hw1 hw2 hbig] at hjc
  obtain ⟨lbad, lgood⟩ := joins_law hr hw1 hw2 hbig
  have hww := check_join hw1 hw2 hbig
  have lw : (us ++ vs).length ≤ 2000 := by rw [List.length_append]; omega
  have hval : (rStepF rs us).2 = 0 → (rStepF rs us).1.length ≤ 2000 ∧ ∀ m ∈ (rStepF rs us).1, m.args.length ≤ 1000 := fun h1 => by
    have e1 := rStepF_of (openR_of hr hw1)
    rw [e1] at h1 ⊢
    have hv := step_valid (checkR_core hr) hw1 h1
    exact ⟨check_len hv, fun m hm => by have := (fine_args (List.all_eq_true.1 (check_all hv) m hm)).2; omega⟩
  have hval2 : (rStepF rs vs).2 = 0 → (rStepF rs vs).1.length ≤ 2000 ∧ ∀ m ∈ (rStepF rs vs).1, m.args.length ≤ 1000 := fun h1 => by
    have e1 := rStepF_of (openR_of hr hw2)
    rw [e1] at h1 ⊢
    have hv := step_valid (checkR_core hr) hw2 h1
    exact ⟨check_len hv, fun m hm => by have := (fine_args (List.all_eq_true.1 (check_all hv) m hm)).2; omega⟩
  obtain ⟨W, hW⟩ : ∃ W, us ++ vs = W := ⟨_, rfl⟩
  rw [hW] at lbad lgood hjc lw
  obtain ⟨⟨x, e1⟩, hx⟩ : ∃ q, rStepF rs us = q := ⟨_, rfl⟩
  obtain ⟨⟨y, e2⟩, hy⟩ : ∃ q, rStepF rs vs = q := ⟨_, rfl⟩
  obtain ⟨⟨z, e3⟩, hz⟩ : ∃ q, rStepF rs W = q := ⟨_, rfl⟩
  rw [hx] at lbad lgood hval
  rw [hy] at lbad lgood hval2
  rw [hz] at lbad lgood
  dsimp only at lbad lgood hval hval2
  have cx := fun V (hV : Below w.heap.size w V) => rStep_calls A c rs B cb us V (H.out.later hV) (H1.out.later hV) hs
  have cy := fun V (hV : Below w.heap.size w V) => rStep_calls A c rs C cc vs V (H.out.later hV) (H2.out.later hV) hs
  unfold RStepPost at cx cy
  rw [hx] at cx
  rw [hy] at cy
  have Hjc := Lib.hid hjc; clear hjc
  have Hs := Lib.hid hs; clear hs
  have Hr := Lib.hid hr; clear hr
  have Hw1 := Lib.hid hw1; clear hw1
  have Hw2 := Lib.hid hw2; clear hw2
  have Au := Lib.hid au; clear au
  have Av := Lib.hid av; clear av
  have Lbad := Lib.hid lbad; clear lbad
  have Lgood := Lib.hid lgood; clear lgood
  have Hval := Lib.hid hval; clear hval
  have Hval2 := Lib.hid hval2; clear hval2
  have Hx := Lib.hid hx; clear hx
  have Hy := Lib.hid hy; clear hy
  have Hz := Lib.hid hz; clear hz
  have HW := Lib.hid hW; clear hW
  have Hww := Lib.hid hww; clear hww
  have Cx := Lib.hid cx; clear cx
  have Cy := Lib.hid cy; clear cy
  go_enter Tryd.func5, Tryd.ntmps5
  go_wp2_with fail
  refine (valid_calls A c rs B cb us w H.out H1.out).mono ?_
  rintro e w1 ⟨rfl, b1⟩
  rw [hv]
  have T1 := Lib.hid b1; clear b1
  go_wp2_with fail
  refine (valid_calls A c rs C cc vs w1 (H.out.later T1.out) (H2.out.later T1.out)).mono ?_
  rintro e w2 ⟨rfl, b2⟩
  rw [hv2]
  have T2 := Lib.hid (T1.out.trans (b2.mono T1.out.size)); clear b2
  clear hv hv2
  go_wp2_with fail
  refine (Hjc.out w2 T2.out).mono ?_
  rintro e w3 ⟨A3, c3, rfl, o3, b3⟩
  have T3 := Lib.hid (T2.out.trans (b3.mono T2.out.size))
  have S3 := Lib.hid (ownF_sl o3); clear b3 o3
  go_wp2_with fail
  refine (Cx.out w3 T3.out).mono ?_
  rintro e w4 ⟨A4, c4, rfl, o4, b4⟩
  have T4 := Lib.hid (T3.out.trans (b4.mono T3.out.size))
  have S34 := Lib.hid (S3.out.later b4)
  have S4 := Lib.hid (ownF_sl o4); clear b4 o4 S3
  go_wp2_with fail
  refine (Cy.out w4 T4.out).mono ?_
  rintro e w5 ⟨A5, c5, rfl, o5, b5⟩
  have T5 := Lib.hid (T4.out.trans (b5.mono T4.out.size))
  have S35 := Lib.hid (S34.out.later b5)
  have S45 := Lib.hid (S4.out.later b5)
  have S5 := Lib.hid (ownF_sl o5); clear b5 o5 S34 S4
  have cz := rStep_calls A c rs A3 c3 W w5 (H.out.later T5.out) S35.out Hs.out
  unfold RStepPost at cz
  rw [Hz.out] at cz
  have Cz := Lib.hid cz; clear cz
  go_wp2_with fail
  refine Cz.out.mono ?_
  rintro e w6 ⟨A6, c6, rfl, o6, b6⟩
  have T6 := Lib.hid (T5.out.trans (b6.mono T5.out.size))
  have S46 := Lib.hid (S45.out.later b6)
  have S56 := Lib.hid (S5.out.later b6)
  have S6 := Lib.hid (ownF_sl o6); clear b6 o6 S35 S45 S5
  by_cases h1 : e1 = 0
  · by_cases h2 : e2 = 0
    · subst h1 h2
      have hgo := Lgood.out rfl rfl
      obtain ⟨lx, ax⟩ := Hval.out rfl
      obtain ⟨ly, ay⟩ := Hval2.out rfl
      have p7 := join_calls A4 A5 c4 c5 x y w6 S46.out S56.out (by omega) (by omega) ax ay
      unfold JoinPost at p7
      rw [← hgo] at p7
      have eb : (e3 == e3) = true := beq_self_eq_true _
      have P7 := Lib.hid p7; clear p7
      have Hgo := Lib.hid hgo; clear hgo
      have Ax := Lib.hid ax; clear ax
      have Ay := Lib.hid ay; clear ay
      go_wp2_with fail
      refine P7.out.mono ?_
      rintro e w7 ⟨A7, c7, rfl, o7, b7⟩
      have T7 := Lib.hid (T6.out.trans (b7.mono T6.out.size))
      have S67 := Lib.hid (S6.out.later b7)
      have S7 := Lib.hid (ownF_sl o7); clear b7 o7 S46 S56 S6
      have p8 := refSame_calls A6 A7 c6 c7 z z w7 S67.out S7.out
      rw [beq_self_eq_true] at p8
      have P8 := Lib.hid p8; clear p8
      go_wp2_with fail
      refine P8.out.mono ?_
      rintro e w8 ⟨rfl, b8⟩
      have T8 := Lib.hid (T7.out.trans (b8.mono T7.out.size)); clear b8
      go_wp2_with fail
      refine (Out.out w8 T8.out).mono ?_
      rintro e w9 ⟨rfl, b9⟩
      go_wp2
      go_ret
      exact ⟨rfl, b9.out⟩
    · have e0 : (e2 != 0) = true := by simpa using h2
      have en : (e3 != 0) = true := by have := Lbad.out (.inr h2); simpa using this
      subst h1
      clear h2
      go_wp2_with fail
      refine (Out.out w6 T6.out).mono ?_
      rintro e w9 ⟨rfl, b9⟩
      go_wp2
      go_ret
      exact ⟨rfl, b9.out⟩
  · have e0 : (e1 != 0) = true := by simpa using h1
    have en : (e3 != 0) = true := by have := Lbad.out (.inl h1); simpa using this
    clear h1
    go_wp2_with fail
    refine (Out.out w6 T6.out).mono ?_
    rintro e w9 ⟨rfl, b9⟩
    go_wp2
    go_ret
    exact ⟨rfl, b9.out⟩
end Go.Proofs.YtmcgfhgpldfknaaDoor
