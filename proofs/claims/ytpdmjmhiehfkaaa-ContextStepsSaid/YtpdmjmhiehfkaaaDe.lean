/-
  Layer 8: the walk of ContextSteps.
-/
import Derived.Test.YtpdmjmhiehfkaaaDd
import Derived.Test.YtpdmjmhiehfkaaaWi
import Derived.Test.YtpdmjmhiehfkaaaFi
import Derived.Test.YtpdmjmhiehfkaaaOp
namespace Go.Proofs.Ytpdmjmhiehfkaaa
open Go.RowKit Go.Sort

theorem great_noR {ms : List Mod} (h : greatF ms = false) : ms.length ≤ 10000 ∧ ∀ m ∈ ms, m.args.length ≤ 1000 := by
  unfold greatF at h
  rw [Bool.or_eq_false_iff] at h
  obtain ⟨h1, h2⟩ := h
  have h1' := of_decide_eq_false h1
  refine ⟨by omega, fun m hm => ?_⟩
  have := List.any_eq_false.1 h2 m hm
  simp at this
  omega
theorem own_old {w w' : World} {e : TypeId} {B : Nat} {A : Option Addr} {n c : Nat} {xs : List Mod} (h : Own pModF e B (B ≤ ·) w (.slice A n c) xs) (hb : Below w.heap.size w w') : xs.length = n ∧ SlAt pMod (Old w') w' A c xs := by
  obtain ⟨A', c', hv, hs⟩ := (h.later hb).fresh
  injection hv with h1 h2 h3
  subst h1 h2 h3
  exact ⟨rfl, (slAt_modF hs).wide fun q hq => hq.2⟩
theorem own_oldM {w w' : World} {e : TypeId} {B : Nat} {A : Option Addr} {n c : Nat} {xs : List Mod} (h : Own pMod e B (B ≤ ·) w (.slice A n c) xs) (hb : Below w.heap.size w w') : xs.length = n ∧ SlAt pMod (Old w') w' A c xs := by
  obtain ⟨A', c', hv, hs⟩ := (h.later hb).fresh
  injection hv with h1 h2 h3
  subst h1 h2 h3
  exact ⟨rfl, hs.wide fun q hq => hq.2⟩
theorem own_soft {w w' : World} {e : TypeId} {B : Nat} {A : Option Addr} {n c : Nat} {xs : List Mod} (h : Own pModF e B (B ≤ ·) w (.slice A n c) xs) (hk : ∀ k, B ≤ k → k < w.heap.size → w'.heap[k]? = w.heap[k]?) : SoftMods (fun k => B ≤ k ∧ k < w.heap.size) w' A n := by
  obtain ⟨A', c', hv, hs⟩ := h.fresh
  injection hv with h1 h2 h3
  subst h1 h2 h3
  refine soft_of (hs.keep fun q hq => hk q hq.1 hq.2) fun a ha => ?_
  subst ha
  have hl := h.lt _ rfl
  exact unf_same (own_unf h) (hk _ hl.1 hl.2)

set_option maxRecDepth 100000 in
set_option maxHeartbeats 4000000 in
theorem contextSteps_walk (A : Option Addr) (c : Nat) (rs : List Rul) (p : ByteArray) (B : Option Addr) (cb : Nat) (ms : List Mod) (n : Int) (w : World) (h : SlAt pRul (Old w) w A c rs) (h' : SlAt pMod (Old w) w B cb ms) (hn : Fits .i64 n) :
    Calls Try.prog 4 #[.slice A rs.length c, .string p, .slice B ms.length cb, .int .i64 n] w (OkPost w) := by
  have hmx := h.lenle
  have hmy := h'.lenle
  have hn64 := hn.i64
  have gr := greatR_calls A c rs w h
  have gw := great_calls B cb ms w h'
  have H := Lib.hid h; clear h
  have H' := Lib.hid h'; clear h'
  have Hn := Lib.hid hn; clear hn
  have gr' : Calls Try.prog 5 #[.slice A rs.length c] w fun e w' => e = .returned (.bool (greatR rs)) ∧ w = w' := gr
  clear gr
  cases hgr : greatR rs
  case true =>
    rw [hgr] at gr'
    have Gr' := Lib.hid gr'; clear gr'
    have Gw := Lib.hid gw; clear gw
    have Hgr := Lib.hid hgr; clear hgr
    go_enter Try.func4, Try.ntmps4
    go_wp2_with (first | (go_at_call 5; refine Gr'.out.mono ?_; rintro e w' ⟨rfl, rfl⟩) | (go_at_call 6; refine Gw.out.mono ?_; rintro e w' ⟨rfl, rfl⟩))
    go_ret
    exact ⟨rfl, Below.refl _ _⟩
  case false =>
  rw [hgr] at gr'
  have hs := small_of hgr
  cases hgw : greatF ms
  case true =>
    rw [hgw] at gw
    have Gr' := Lib.hid gr'; clear gr'
    have Gw := Lib.hid gw; clear gw
    have Hgr := Lib.hid hgr; clear hgr
    have Hgw := Lib.hid hgw; clear hgw
    go_enter Try.func4, Try.ntmps4
    go_wp2_with (first | (go_at_call 5; refine Gr'.out.mono ?_; rintro e w' ⟨rfl, rfl⟩) | (go_at_call 6; refine Gw.out.mono ?_; rintro e w' ⟨rfl, rfl⟩))
    go_ret
    exact ⟨rfl, Below.refl _ _⟩
  case false =>
  rw [hgw] at gw
  obtain ⟨lx, ax⟩ := great_noR hgw
  by_cases h6 : 60 < ms.length ∧ ms.length ≤ 2000
  · obtain ⟨h60, h61⟩ := h6
    have Gr' := Lib.hid gr'; clear gr'
    have Gw := Lib.hid gw; clear gw
    have Hgr := Lib.hid hgr; clear hgr
    have Hgw := Lib.hid hgw; clear hgw
    have Ax := Lib.hid ax; clear ax
    go_enter Try.func4, Try.ntmps4
    go_wp2_with (first | (go_at_call 5; refine Gr'.out.mono ?_; rintro e w' ⟨rfl, rfl⟩) | (go_at_call 6; refine Gw.out.mono ?_; rintro e w' ⟨rfl, rfl⟩))
    go_ret
    exact ⟨rfl, Below.refl _ _⟩
  have h7 : ¬ 60 < ms.length ∨ (60 < ms.length ∧ ¬ ms.length ≤ 2000) := by omega
  clear h6
  by_cases hp1 : (100 : Int) < (p.size : Int)
  · rcases h7 with h7 | ⟨h7, h8⟩
    all_goals
      have Gr' := Lib.hid gr'; clear gr'
      have Gw := Lib.hid gw; clear gw
      have Hgr := Lib.hid hgr; clear hgr
      have Hgw := Lib.hid hgw; clear hgw
      have Ax := Lib.hid ax; clear ax
      go_enter Try.func4, Try.ntmps4
      go_wp2_with (first | (go_at_call 5; refine Gr'.out.mono ?_; rintro e w' ⟨rfl, rfl⟩) | (go_at_call 6; refine Gw.out.mono ?_; rintro e w' ⟨rfl, rfl⟩))
      go_ret
      exact ⟨rfl, Below.refl _ _⟩
  by_cases hn6 : 4 < n ∧ n ≤ 30
  · obtain ⟨hn6, hn30⟩ := hn6
    rcases h7 with h7 | ⟨h7, h8⟩
    all_goals
      have Gr' := Lib.hid gr'; clear gr'
      have Gw := Lib.hid gw; clear gw
      have Hgr := Lib.hid hgr; clear hgr
      have Hgw := Lib.hid hgw; clear hgw
      have Ax := Lib.hid ax; clear ax
      go_enter Try.func4, Try.ntmps4
      go_wp2_with (first | (go_at_call 5; refine Gr'.out.mono ?_; rintro e w' ⟨rfl, rfl⟩) | (go_at_call 6; refine Gw.out.mono ?_; rintro e w' ⟨rfl, rfl⟩))
      go_ret
      exact ⟨rfl, Below.refl _ _⟩
  have hn7 : ¬ 4 < n ∨ (4 < n ∧ ¬ n ≤ 30) := by omega
  clear hn6
  have hp : p.size ≤ 1000 := by omega
  obtain ⟨r1, hr1⟩ : ∃ r1, cStepF rs p ms = r1 := ⟨_, rfl⟩
  obtain ⟨r2, hr2⟩ : ∃ r2, cRunF rs p ms n = r2 := ⟨_, rfl⟩
  have l1 := cStepF_len (rs := rs) (p := p) (ms := ms)
  have l2 := cRunF_len (rs := rs) (p := p) (ms := ms) (n := n)
  rw [hr1] at l1
  rw [hr2] at l2
  have ctw := fun (W : World) (hb : Below w.heap.size w W) => refTwin_calls B cb ms W (H'.out.later hb) lx ax
  have cst := fun (W : World) (hb : Below w.heap.size w W) => cStep_calls A c rs p B cb ms W (H.out.later hb) (H'.out.later hb) hs hp
  have crs := fun (W : World) (hb : Below w.heap.size w W) => refCStep_calls A c rs p B cb ms W (H.out.later hb) (H'.out.later hb) hs hp
  have crn := fun (W : World) (hb : Below w.heap.size w W) => cRun_calls A c rs p B cb ms n W (H.out.later hb) (H'.out.later hb) hs hp Hn.out
  have crr := fun (W : World) (hb : Below w.heap.size w W) => refCRun_calls A c rs p B cb ms n W (H.out.later hb) (H'.out.later hb) hs hp Hn.out
  unfold CStepPost at cst
  unfold RefCStepPost at crs
  unfold CRunPost at crn
  unfold RefCRunPost at crr
  rw [hr1] at cst crs
  rw [hr2] at crn crr
  obtain ⟨v1, e1⟩ := r1
  obtain ⟨v2, e2⟩ := r2
  simp only at l1 l2 cst crs crn crr
  have Gr' := Lib.hid gr'; clear gr'
  have Gw := Lib.hid gw; clear gw
  have Hgr := Lib.hid hgr; clear hgr
  have Hgw := Lib.hid hgw; clear hgw
  have Ax := Lib.hid ax; clear ax
  have Ctw := Lib.hid ctw; clear ctw
  have Cst := Lib.hid cst; clear cst
  have Crs := Lib.hid crs; clear crs
  have Crn := Lib.hid crn; clear crn
  have Crr := Lib.hid crr; clear crr
  have Hr1 := Lib.hid hr1; clear hr1
  have Hr2 := Lib.hid hr2; clear hr2
  have Hs := Lib.hid hs; clear hs
  have hne1 : (e1 != e1) = false := bne_self_eq_false e1
  have hne2 : (e2 != e2) = false := bne_self_eq_false e2
  rcases h7 with h7 | ⟨h7, h8⟩ <;> rcases hn7 with hn7 | ⟨hn7, hn8⟩
  all_goals
    go_enter Try.func4, Try.ntmps4
    go_wp2_with (first | (go_at_call 5; refine Gr'.out.mono ?_; rintro e w' ⟨rfl, rfl⟩) | (go_at_call 6; refine Gw.out.mono ?_; rintro e w' ⟨rfl, rfl⟩))
    refine (Ctw.out w (Below.refl _ _)).mono ?_
    rintro e w1 ⟨A1, c1, rfl, own1, hb1⟩
    have z1 := hb1.size
    have Hb1 := Lib.hid hb1; clear hb1
    have Own1 := Lib.hid own1; clear own1
    go_wp2_with fail
    refine (Cst.out w1 Hb1.out).mono ?_
    rintro e w2 ⟨A2, c2, rfl, own2, hb2⟩
    have hb02 := Hb1.out.trans (hb2.mono z1)
    have z2 := hb2.size
    have z02 := hb02.size
    have Hb2 := Lib.hid hb2; clear hb2
    have Hb02 := Lib.hid hb02; clear hb02
    have Own2 := Lib.hid own2; clear own2
    go_wp2_with fail
    refine (Crs.out w2 Hb02.out).mono ?_
    rintro e w3 ⟨A3, c3, rfl, own3, hb3⟩
    have hb03 := Hb02.out.trans (hb3.mono z02)
    have z3 := hb3.size
    have z03 := hb03.size
    have Hb3 := Lib.hid hb3; clear hb3
    have Hb03 := Lib.hid hb03; clear hb03
    have Own3 := Lib.hid own3; clear own3
    go_wp2_with fail
    refine (Crn.out w3 Hb03.out).mono ?_
    rintro e w4 ⟨A4, c4, rfl, own4, hb4⟩
    have hb04 := Hb03.out.trans (hb4.mono z03)
    have z4 := hb4.size
    have z04 := hb04.size
    have Hb4 := Lib.hid hb4; clear hb4
    have Hb04 := Lib.hid hb04; clear hb04
    have Own4 := Lib.hid own4; clear own4
    go_wp2_with fail
    refine (Crr.out w4 Hb04.out).mono ?_
    rintro e w5 ⟨A5, c5, rfl, own5, hb5⟩
    have hb05 := Hb04.out.trans (hb5.mono z04)
    have z5 := hb5.size
    have z05 := hb05.size
    have hb25 := Hb3.out.trans ((Hb4.out.trans (hb5.mono z4)).mono z3)
    have hb35 := Hb4.out.trans (hb5.mono z4)
    have sab := refSame_calls A2 A3 c2 c3 v1 v1 w5 (own_old Own2.out hb25).2 (own_oldM Own3.out hb35).2
    rw [beq_self_eq_true] at sab
    have Hb5 := Lib.hid hb5; clear hb5
    have Hb05 := Lib.hid hb05; clear hb05
    have Own5 := Lib.hid own5; clear own5
    have Sab := Lib.hid sab; clear sab
    have Hb25 := Lib.hid hb25; clear hb25
    have Hb35 := Lib.hid hb35; clear hb35
    go_wp2_with fail
    refine Sab.out.mono ?_
    rintro e w6 ⟨rfl, hb6⟩
    have z6 := hb6.size
    have hb46 := Hb5.out.trans (hb6.mono z5)
    have scd := refSame_calls A4 A5 c4 c5 v2 v2 w6 (own_old Own4.out hb46).2 (own_oldM Own5.out hb6).2
    rw [beq_self_eq_true] at scd
    have hb06 := Hb05.out.trans (hb6.mono z05)
    have hb26 := Hb25.out.trans (hb6.mono (by omega))
    have Hb6 := Lib.hid hb6; clear hb6
    have Scd := Lib.hid scd; clear scd
    have Hb46 := Lib.hid hb46; clear hb46
    have Hb06 := Lib.hid hb06; clear hb06
    have Hb26 := Lib.hid hb26; clear hb26
    go_wp2_with fail
    refine Scd.out.mono ?_
    rintro e w7 ⟨rfl, hb7⟩
    have z7 := hb7.size
    have hb07 := Hb06.out.trans (hb7.mono (by omega))
    have hb27 := Hb26.out.trans (hb7.mono (by omega))
    have hb47 := Hb46.out.trans (hb7.mono (by omega))
    have so2 := own_soft Own2.out (w' := w7) (fun k h1 h2 => hb27.block k h2)
    have Hb7 := Lib.hid hb7; clear hb7
    have Hb07 := Lib.hid hb07; clear hb07
    have Hb27 := Lib.hid hb27; clear hb27
    have Hb47 := Lib.hid hb47; clear hb47
    have So2 := Lib.hid so2; clear so2
    go_wp2_with fail
    refine (spoil_calls A2 v1.length c2 w7 So2.out (by omega)).mono ?_
    rintro e w8 ⟨rfl, k8⟩
    have so4 := own_soft Own4.out (w' := w8) (fun k h1 h2 => (k8.block k (by omega)).trans (Hb47.out.block k h2))
    have K8 := Lib.hid k8; clear k8
    have So4 := Lib.hid so4; clear so4
    go_wp2_with fail
    refine (spoil_calls A4 v2.length c4 w8 So4.out (by omega)).mono ?_
    rintro e w9 ⟨rfl, k9⟩
    have z9 : w9.heap.size = w7.heap.size := k9.size.trans K8.out.size
    have hb09 : Below w.heap.size w w9 := (Hb07.out.trans (K8.out.below (B := w.heap.size) fun k hk => by omega)).trans (k9.below fun k hk => by omega)
    have hk19 : ∀ k, k < w1.heap.size → w9.heap[k]? = w1.heap[k]? := fun k hk =>
      (k9.block k (by omega)).trans ((K8.out.block k (by omega)).trans ((Hb27.out.block k (by omega)).trans (Hb2.out.block k hk)))
    have s1 : SlAt pMod (Old w9) w9 A1 c1 ms := by
      obtain ⟨_, _, hv, hs1⟩ := Own1.out.fresh; cases hv
      exact (hs1.keep fun k hk => hk19 k hk.2).wide fun k hk => by unfold Old; omega
    have sfin := refSame_calls B A1 cb c1 ms ms w9 (H'.out.later hb09) s1
    rw [beq_self_eq_true] at sfin
    have Hb09 := Lib.hid hb09; clear hb09
    have Sfin := Lib.hid sfin; clear sfin
    clear s1 hk19 k9
    go_wp2_with fail
    refine Sfin.out.mono ?_
    rintro e w10 ⟨rfl, hb10⟩
    have hb010 := Hb09.out.trans (hb10.mono (by omega))
    have Hb010 := Lib.hid hb010; clear hb010
    clear hb10
    go_wp2
    go_ret
    exact ⟨rfl, Hb010.out⟩
end Go.Proofs.Ytpdmjmhiehfkaaa
