/-
  Layer 6: the walk of WordJoins.
-/
import Derived.Test.YtbncnlmpgclpgaaWi
namespace Go.Proofs.Ytbncnlmpgclpgaa
open Go.RowKit

theorem great_no {ms : List Mod} (h : greatF ms = false) : ms.length ≤ 10000 ∧ ∀ m ∈ ms, m.args.length ≤ 1000 := by
  unfold greatF at h
  rw [Bool.or_eq_false_iff] at h
  obtain ⟨h1, h2⟩ := h
  have h1' := of_decide_eq_false h1
  refine ⟨by omega, fun m hm => ?_⟩
  have := List.any_eq_false.1 h2 m hm
  simp at this
  omega

def OkPost (w : World) (e : Ending) (w' : World) : Prop := e = .returned (.bool true) ∧ Below w.heap.size w w'

set_option maxRecDepth 100000 in
set_option maxHeartbeats 2000000 in
theorem wordJoins_walk (A B : Option Addr) (c c' : Nat) (xs ys : List Mod) (w : World) (h : SlAt pMod (Old w) w A c xs) (h' : SlAt pMod (Old w) w B c' ys) :
    Calls Try.prog 3 #[.slice A xs.length c, .slice B ys.length c'] w (OkPost w) := by
  have hmx := h.lenle
  have hmy := h'.lenle
  have H := Lib.hid h; clear h
  have H' := Lib.hid h'; clear h'
  have gx := great_calls A c xs w H.out
  have gy := great_calls B c' ys w H'.out
  cases hgx : greatF xs
  case true =>
    rw [hgx] at gx
    have Gx := Lib.hid gx; clear gx gy
    go_enter Try.func3, Try.ntmps3
    go_wp2_with (go_at_call 5; refine Gx.out.mono ?_; rintro e w' ⟨rfl, rfl⟩)
    go_ret
    exact ⟨rfl, Below.refl _ _⟩
  case false =>
  cases hgy : greatF ys
  case true =>
    rw [hgx] at gx
    rw [hgy] at gy
    have Gx := Lib.hid gx; have Gy := Lib.hid gy; clear gx gy
    go_enter Try.func3, Try.ntmps3
    go_wp2_with (go_at_call 5; first | ((with_reducible refine Gx.out.mono ?_); rintro e w' ⟨rfl, rfl⟩) | ((with_reducible refine Gy.out.mono ?_); rintro e w' ⟨rfl, rfl⟩))
    go_ret
    exact ⟨rfl, Below.refl _ _⟩
  case false =>
  rw [hgx] at gx
  rw [hgy] at gy
  have Gx := Lib.hid gx; have Gy := Lib.hid gy; clear gx gy
  obtain ⟨lx, ax⟩ := great_no hgx
  obtain ⟨ly, ay⟩ := great_no hgy
  have Ax := Lib.hid ax; have Ay := Lib.hid ay; clear ax ay
  go_enter Try.func3, Try.ntmps3
  go_wp2_with (go_at_call 5; first | ((with_reducible refine Gx.out.mono ?_); rintro e w' ⟨rfl, rfl⟩) | ((with_reducible refine Gy.out.mono ?_); rintro e w' ⟨rfl, rfl⟩))
  refine (refTwin_calls A c xs _ H.out lx Ax.out).mono ?_
  rintro e w1 ⟨A1, c1, rfl, own1, hb1⟩
  obtain ⟨_, _, hv1, sl1⟩ := own1.fresh; cases hv1
  have Sl1 := Lib.hid sl1; clear sl1 own1
  have z1 := hb1.size
  have Hb1 := Lib.hid hb1; clear hb1
  go_wp2_with fail
  refine (refTwin_calls B c' ys w1 (H'.out.later Hb1.out) ly Ay.out).mono ?_
  rintro e w2 ⟨A2, c2, rfl, own2, hb2⟩
  obtain ⟨_, _, hv2, sl2⟩ := own2.fresh; cases hv2
  have Sl2 := Lib.hid sl2; clear sl2 own2
  have z2 := hb2.size
  have Hb2 := Lib.hid hb2; clear hb2
  have hb02 : Below w.heap.size w w2 := Hb1.out.trans (Hb2.out.mono z1)
  have Hb02 := Lib.hid hb02; clear hb02
  go_wp2_with fail
  refine (join_calls A B c c' xs ys w2 (H.out.later Hb02.out) (H'.out.later Hb02.out) lx ly Ax.out Ay.out).mono ?_
  rintro e w3 ⟨A3, c3, rfl, own3, hb3⟩
  have Own3 := Lib.hid own3; clear own3
  have z3 := hb3.size
  have Hb3 := Lib.hid hb3; clear hb3
  have hb03 : Below w.heap.size w w3 := Hb02.out.trans (Hb3.out.mono (by omega))
  have Hb03 := Lib.hid hb03; clear hb03
  go_wp2_with fail
  refine (refJoin_calls A B c c' xs ys w3 (H.out.later Hb03.out) (H'.out.later Hb03.out) lx ly Ax.out Ay.out).mono ?_
  rintro e w4 ⟨A4, c4, rfl, own4, hb4⟩
  obtain ⟨_, _, hv4, sl4⟩ := own4.fresh; cases hv4
  have Sl4 := Lib.hid sl4; clear sl4 own4
  have z4 := hb4.size
  have Hb4 := Lib.hid hb4; clear hb4
  have hb04 : Below w.heap.size w w4 := Hb03.out.trans (Hb4.out.mono (by omega))
  have Hb04 := Lib.hid hb04; clear hb04
  go_wp2_with fail
  refine (twin_calls A c xs w4 (H.out.later Hb04.out) lx Ax.out).mono ?_
  rintro e w5 ⟨A5, c5, rfl, own5, hb5⟩
  have Own5 := Lib.hid own5; clear own5
  have z5 := hb5.size
  have Hb5 := Lib.hid hb5; clear hb5
  have hb35 : Below w3.heap.size w3 w5 := Hb4.out.trans (Hb5.out.mono z4)
  have Hb35 := Lib.hid hb35; clear hb35
  have hlj : (joinRes xs ys).1.length ≤ 100000 := by
    unfold joinRes
    split <;> (try split) <;> (try split) <;> simp <;> omega
  generalize hJ : joinRes xs ys = J at *
  have HJ := Lib.hid hJ; clear hJ
  obtain ⟨J1, J2⟩ := J
  simp only at Own3 Sl4 hlj ⊢
  have x5 : SlAt pMod (Old w5) w5 A3 c3 J1 := by
    obtain ⟨_, _, hv, sl⟩ := (Own3.out.later Hb35.out).fresh; cases hv
    exact (slAt_modF sl).wide fun k hk => hk.2
  have y5 : SlAt pMod (Old w5) w5 A4 c4 J1 := (Sl4.out.keep fun k hk => Hb5.out.block k hk.2).wide fun k hk => Nat.lt_of_lt_of_le hk.2 z5
  have sxy := refSame_calls A3 A4 c3 c4 J1 J1 w5 x5 y5
  rw [beq_self_eq_true] at sxy
  have Sxy := Lib.hid sxy
  clear sxy x5 y5
  have e0 : (J2 != J2) = false := bne_self_eq_false J2
  go_wp2_with fail
  refine Sxy.out.mono ?_
  rintro e w6 ⟨rfl, hb6⟩
  have z6 := hb6.size
  have Hb6 := Lib.hid hb6; clear hb6
  have hb06 : Below w.heap.size w w6 := (Hb04.out.trans (Hb5.out.mono (by omega))).trans (Hb6.out.mono (by omega))
  have Hb06 := Lib.hid hb06; clear hb06
  have hta := refSame_calls A5 A c5 c xs xs w6 (by
    obtain ⟨_, _, hv, sl⟩ := (Own5.out.later Hb6.out).fresh; cases hv
    exact (slAt_modF sl).wide fun k hk => hk.2) (H.out.later Hb06.out)
  rw [beq_self_eq_true] at hta
  have Hta := Lib.hid hta; clear hta
  go_wp2_with fail
  refine Hta.out.mono ?_
  rintro e w7 ⟨rfl, hb7⟩
  have z7 := hb7.size
  have hb57 : Below w5.heap.size w5 w7 := Hb6.out.trans (hb7.mono z6)
  have hb37 : Below w3.heap.size w3 w7 := Hb35.out.trans (hb57.mono (by omega))
  have Hb57 := Lib.hid hb57; have Hb37 := Lib.hid hb37; clear hb57 hb37
  have Hb7 := Lib.hid hb7; clear hb7
  have sox : SoftMods (fun k => w2.heap.size ≤ k ∧ k < w3.heap.size) w7 A3 J1.length := by
    obtain ⟨_, _, hv, sl⟩ := Own3.out.fresh; cases hv
    refine soft_of (sl.keep fun k hk => Hb37.out.block k hk.2) fun a ha => ?_
    subst ha
    exact unf_same (own_unf Own3.out) (Hb37.out.block _ (Own3.out.lt _ rfl).2)
  have Sox := Lib.hid sox; clear sox
  go_wp2_with fail
  refine (spoil_calls A3 J1.length c3 w7 Sox.out (by omega)).mono ?_
  rintro e w8 ⟨rfl, k8⟩
  have K8 := Lib.hid k8; clear k8
  have h58 : ∀ k, w4.heap.size ≤ k → k < w5.heap.size → w8.heap[k]? = w5.heap[k]? := fun k h1 h2 => (K8.out.block k (by omega)).trans (Hb57.out.block k h2)
  have sot : SoftMods (fun k => w4.heap.size ≤ k ∧ k < w5.heap.size) w8 A5 xs.length := by
    obtain ⟨_, _, hv, sl⟩ := Own5.out.fresh; cases hv
    refine soft_of (sl.keep fun k hk => h58 k hk.1 hk.2) fun a ha => ?_
    subst ha
    have hl := Own5.out.lt _ rfl
    exact unf_same (own_unf Own5.out) (h58 _ hl.1 hl.2)
  have Sot := Lib.hid sot; clear sot h58
  go_wp2_with fail
  refine (spoil_calls A5 xs.length c5 w8 Sot.out (by omega)).mono ?_
  rintro e w9 ⟨rfl, k9⟩
  have K9 := Lib.hid k9; clear k9
  have h29 : ∀ k, k < w2.heap.size → w9.heap[k]? = w2.heap[k]? := fun k hk =>
    (K9.out.block k (by omega)).trans ((K8.out.block k (by omega)).trans ((Hb37.out.block k (by omega)).trans (Hb3.out.block k hk)))
  have z9 : w9.heap.size = w7.heap.size := K9.out.size.trans K8.out.size
  have hb09 : Below w.heap.size w w9 := ((Hb03.out.trans (Hb37.out.mono (by omega))).trans (K8.out.below fun k hk => by omega)).trans (K9.out.below fun k hk => by omega)
  have Hb09 := Lib.hid hb09; clear hb09
  have s1 : SlAt pMod (Old w9) w9 A1 c1 xs := ((Sl1.out.keep fun k hk => Hb2.out.block k hk.2).keep fun k hk => h29 k (Nat.lt_of_lt_of_le hk.2 z2)).wide fun k hk => by unfold Old; omega
  have s2 : SlAt pMod (Old w9) w9 A2 c2 ys := (Sl2.out.keep fun k hk => h29 k hk.2).wide fun k hk => by unfold Old; omega
  have ca := refSame_calls A A1 c c1 xs xs w9 (H.out.later Hb09.out) s1
  rw [beq_self_eq_true] at ca
  have Ca := Lib.hid ca
  have S2 := Lib.hid s2
  clear ca s1 s2 h29
  go_wp2_with fail
  refine Ca.out.mono ?_
  rintro e w10 ⟨rfl, hb10⟩
  have Hb10 := Lib.hid hb10; clear hb10
  have hb010 : Below w.heap.size w w10 := Hb09.out.trans (Hb10.out.mono (by omega))
  have Hb010 := Lib.hid hb010; clear hb010
  have cb := refSame_calls B A2 c' c2 ys ys w10 (H'.out.later Hb010.out) (S2.out.later Hb10.out)
  rw [beq_self_eq_true] at cb
  have Cb := Lib.hid cb; clear cb
  go_wp2_with fail
  refine Cb.out.mono ?_
  rintro e w11 ⟨rfl, hb11⟩
  have Hb11 := Lib.hid (Hb010.out.trans (hb11.mono Hb010.out.size)); clear hb11
  go_wp2
  go_ret
  exact ⟨rfl, Hb11.out⟩

theorem opens_mod' : Opens Try.prog 46 pMod :=
  opens_mod Try.underlying46 (by kernel_rfl) (by decide) (by decide) (opens_int Try.underlying5) (opens_slice Try.underlying44 (by kernel_rfl) (by decide) (opens_int Try.underlying3))
theorem opens_word : Opens Try.prog 22 (pSl pMod) := opens_slice Try.underlying22 (by kernel_rfl) (by decide) opens_mod'

end Go.Proofs.Ytbncnlmpgclpgaa
