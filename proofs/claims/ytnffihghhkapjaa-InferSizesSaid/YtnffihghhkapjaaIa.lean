/-
  Layer 42: the walks of Size, Expand and their references, and of InferSizes.
-/
import Derived.Test.YtnffihghhkapjaaRu
import Derived.Test.YtnffihghhkapjaaFi
import Derived.Test.YtnffihghhkapjaaWg
import Derived.Test.YtnffihghhkapjaaOp
namespace Go.Proofs.Ytnffihghhkapjaa
open Go.RowKit Go.Sort

def outSum : List Rul → Int
  | [] => 0
  | r :: rs => (r.out.length : Int) + outSum rs
theorem outSum_cons (r : Rul) (rs : List Rul) : outSum (r :: rs) = (r.out.length : Int) + outSum rs := rfl
theorem outSum_le : ∀ {rs : List Rul}, (∀ r ∈ rs, r.out.length ≤ 30) → 0 ≤ outSum rs ∧ outSum rs ≤ (rs.length : Int) * 30
  | [], _ => by simp [outSum]
  | r :: rs, h => by
    have h1 := h r (by simp)
    have h2 := outSum_le (rs := rs) fun x hx => h x (by simp [hx])
    rw [outSum_cons, List.length_cons]; omega
def sizeF (ms : List Mod) (rs : List Rul) : Int × Int := if openR rs ms = 0 then ((ms.length : Int) + outSum rs, 0) else (0, openR rs ms)
theorem ret_pairI {x : Int × Int} {a b : Int} (h : x = (a, b)) : Ending.returned (.tuple #[.int .i64 a, .int .i64 b]) = .returned (.tuple #[.int .i64 x.1, .int .i64 x.2]) := by rw [h]

set_option maxRecDepth 100000 in
set_option maxHeartbeats 1000000 in
theorem size_calls (B : Option Addr) (cb : Nat) (ms : List Mod) (A : Option Addr) (c : Nat) (rs : List Rul) (w : World) (h : SlAt pRul (Old w) w A c rs) (h' : SlAt pMod (Old w) w B cb ms) (hs : Small rs) :
    Calls Try.prog 16 #[.slice B ms.length cb, .slice A rs.length c] w (PairPost (sizeF ms rs) w) := by
  have hmx := h.lenle
  have hmx' := h'.lenle
  have hck := rCheck_calls A c rs w h hs
  have H := Lib.hid h; clear h
  have H' := Lib.hid h'; clear h'
  have Hck := Lib.hid hck; clear hck
  go_enter Try.func16, Try.ntmps16
  go_wp2_with fail
  refine Hck.out.mono ?_
  rintro e w1 ⟨rfl, hb1⟩
  have hz1 := hb1.size
  by_cases hr : checkR rs = 0
  case neg =>
    have e0 : (checkR rs != 0) = true := by simp [hr]
    have hff : sizeF ms rs = (0, checkR rs) := by unfold sizeF openR; rw [if_neg hr, if_neg hr]
    have Hb1 := Lib.hid hb1; clear hb1
    have Hff := Lib.hid hff; clear hff
    have Hr := Lib.hid hr; clear hr
    go_wp2
    go_ret2
    exact ⟨ret_pairI Hff.out, Hb1.out⟩
  case pos =>
  have e0 : (checkR rs != 0) = false := by simp [hr]
  have hcw := wordCheck_calls B cb ms w1 (H'.out.later hb1)
  have Hb1 := Lib.hid hb1; clear hb1
  have Hcw := Lib.hid hcw; clear hcw
  have Hr := Lib.hid hr; clear hr
  go_wp2_with fail
  refine Hcw.out.mono ?_
  rintro e w2 ⟨rfl, hb2⟩
  have hbw2 := Hb1.out.trans (hb2.mono hz1)
  by_cases hf : checkF ms = 0
  case neg =>
    have e1 : (checkF ms != 0) = true := by simp [hf]
    have hff : sizeF ms rs = (0, checkF ms) := by unfold sizeF openR; rw [if_pos Hr.out, if_neg hf]
    have Hbw2 := Lib.hid hbw2; clear hbw2
    have Hff := Lib.hid hff; clear hff
    have Hf := Lib.hid hf; clear hf
    clear hb2
    go_wp2
    go_ret2
    exact ⟨ret_pairI Hff.out, Hbw2.out⟩
  case pos =>
  have e1 : (checkF ms != 0) = false := by simp [hf]
  have hff : sizeF ms rs = ((ms.length : Int) + outSum rs, 0) := by unfold sizeF openR; rw [if_pos Hr.out, if_pos hf]
  have hle := checkF_le hf
  have hz2 := hbw2.size
  have hsl := hs.l
  have hso := hs.o
  have Hbw2 := Lib.hid hbw2; clear hbw2
  have Hff := Lib.hid hff; clear hff
  have Hf := Lib.hid hf; clear hf
  have Hso := Lib.hid hso; clear hso
  clear hb2 e0
  go_wp2
  go_loopw [25, 8] (fun i nv wr => ∃ k : Nat, k ≤ rs.length ∧ i = .int .i64 k ∧ ∃ s : Int, nv = .int .i64 s ∧ 0 ≤ s ∧ s ≤ 2000 + k * 30 ∧ Hid (Below w.heap.size w wr) ∧ w.heap.size ≤ wr.heap.size ∧ Hid ((ms.length : Int) + outSum rs = s + outSum (rs.drop k))) (fun i _ _ => rs.length - (intOf i).toNat)
  case atStart => exact ⟨0, Nat.zero_le _, rfl, ms.length, rfl, by omega, by omega, Hbw2, hz2, rfl⟩
  case round =>
    obtain ⟨k, hk, rfl, s, rfl, hs0, hs1, hb, hsz, hsum⟩ := hrel
    obtain ⟨wo, rfl⟩ : ∃ wo : World, wo = wr := ⟨_, rfl⟩
    by_cases hlt : k < rs.length
    case neg =>
      have hy : sizeF ms rs = (s, 0) := by
        rw [Hff.out, hsum.out, drop_end hlt]
        have : outSum [] = 0 := rfl
        rw [this, Int.add_zero]
      have Hy := Lib.hid hy; clear hy
      go_wp2
      go_ret2
      exact ⟨ret_pairI Hy.out, hb.out⟩
    case pos =>
      obtain ⟨b, o, A1, c1, A2, c2, r, hd, rfl, hob, k0, k1, k2, k3, k4, k5, k6, hat, hl1, hl2⟩ := (H.out.below hb.out).getRulAt hlt
      have ho := Hso.out r (mem_of_drop hd.out)
      have hob' : b < wo.heap.size := by have : b < w.heap.size := hob; omega
      have hb1 : Below w.heap.size w (wo.alloc (.cells #[.int .u8 r.name, .int .i64 r.arity, .int .u8 r.left, .int .u8 r.right, .slice A1 r.guards.length c1, .int .i64 r.weight, .slice A2 r.out.length c2] 73)) := hb.out.alloc hsz _
      have Hb1 := Lib.hid hb1; clear hb1
      go_wp2
      go_roundw
      case rel =>
        refine ⟨k + 1, hlt, by go_num, s + (r.out.length : Int), by go_num, by omega, by omega, Hb1, by simp; omega, ?_⟩
        unfold Hid; rw [hsum.out, hd.out, outSum_cons]; omega
      case measure => simp [intOf]; omega

set_option maxRecDepth 100000 in
set_option maxHeartbeats 1000000 in
theorem refSize_calls (B : Option Addr) (cb : Nat) (ms : List Mod) (A : Option Addr) (c : Nat) (rs : List Rul) (w : World) (h : SlAt pRul (Old w) w A c rs) (h' : SlAt pMod (Old w) w B cb ms) (hs : Small rs) :
    Calls Try.prog 17 #[.slice B ms.length cb, .slice A rs.length c] w (PairPost (sizeF ms rs) w) := by
  have hmx := h.lenle
  have hmx' := h'.lenle
  have hck := refRCheck_calls A c rs w h hs
  have H := Lib.hid h; clear h
  have H' := Lib.hid h'; clear h'
  have Hck := Lib.hid hck; clear hck
  go_enter Try.func17, Try.ntmps17
  go_wp2_with fail
  refine Hck.out.mono ?_
  rintro e w1 ⟨rfl, hb1⟩
  have hz1 := hb1.size
  by_cases hr : checkR rs = 0
  case neg =>
    have e0 : (checkR rs != 0) = true := by simp [hr]
    have hff : sizeF ms rs = (0, checkR rs) := by unfold sizeF openR; rw [if_neg hr, if_neg hr]
    have hck1 := refRCheck_calls A c rs w1 (H.out.later hb1) hs
    have Hb1 := Lib.hid hb1; clear hb1
    have Hff := Lib.hid hff; clear hff
    have Hr := Lib.hid hr; clear hr
    have Hck1 := Lib.hid hck1; clear hck1
    go_wp2_with fail
    refine Hck1.out.mono ?_
    rintro e w2 ⟨rfl, hb2⟩
    have hbw2 := Hb1.out.trans (hb2.mono hz1)
    have Hbw2 := Lib.hid hbw2; clear hbw2
    clear hb2
    go_wp2
    go_ret2
    exact ⟨ret_pairI Hff.out, Hbw2.out⟩
  case pos =>
  have e0 : (checkR rs != 0) = false := by simp [hr]
  have hcw := refCheck_calls B cb ms w1 (H'.out.later hb1)
  have Hb1 := Lib.hid hb1; clear hb1
  have Hcw := Lib.hid hcw; clear hcw
  have Hr := Lib.hid hr; clear hr
  go_wp2_with fail
  refine Hcw.out.mono ?_
  rintro e w2 ⟨rfl, hb2⟩
  have hbw2 := Hb1.out.trans (hb2.mono hz1)
  have hz2 := hbw2.size
  by_cases hf : checkF ms = 0
  case neg =>
    have e1 : (checkF ms != 0) = true := by simp [hf]
    have hff : sizeF ms rs = (0, checkF ms) := by unfold sizeF openR; rw [if_pos Hr.out, if_neg hf]
    have hcw2 := refCheck_calls B cb ms w2 (H'.out.later hbw2)
    have Hbw2 := Lib.hid hbw2; clear hbw2
    have Hff := Lib.hid hff; clear hff
    have Hf := Lib.hid hf; clear hf
    have Hcw2 := Lib.hid hcw2; clear hcw2
    clear hb2
    go_wp2_with fail
    refine Hcw2.out.mono ?_
    rintro e w3 ⟨rfl, hb3⟩
    have hbw3 := Hbw2.out.trans (hb3.mono hz2)
    have Hbw3 := Lib.hid hbw3; clear hbw3
    clear hb3
    go_wp2
    go_ret2
    exact ⟨ret_pairI Hff.out, Hbw3.out⟩
  case pos =>
  have e1 : (checkF ms != 0) = false := by simp [hf]
  have hff : sizeF ms rs = ((ms.length : Int) + outSum rs, 0) := by unfold sizeF openR; rw [if_pos Hr.out, if_pos hf]
  have hle := checkF_le hf
  have hsl := hs.l
  have hso := hs.o
  have hw2 := H.out.below hbw2
  have Hbw2 := Lib.hid hbw2; clear hbw2
  have Hff := Lib.hid hff; clear hff
  have Hf := Lib.hid hf; clear hf
  have Hso := Lib.hid hso; clear hso
  have Hw2 := Lib.hid hw2; clear hw2
  clear hb2 e0
  go_wp2
  go_loop [7, 6] (fun i nv => ∃ k : Nat, k ≤ rs.length ∧ i = .int .i64 k ∧ ∃ s : Int, nv = .int .i64 s ∧ 0 ≤ s ∧ s ≤ 2000 + k * 30 ∧ Hid ((ms.length : Int) + outSum rs = s + outSum (rs.drop k))) (fun i _ => rs.length - (intOf i).toNat)
  case atStart => exact ⟨0, Nat.zero_le _, rfl, ms.length, rfl, by omega, by omega, rfl⟩
  case round =>
    obtain ⟨k, hk, rfl, s, rfl, hs0, hs1, hsum⟩ := hrel
    by_cases hlt : k < rs.length
    case neg =>
      have hy : sizeF ms rs = (s, 0) := by
        rw [Hff.out, hsum.out, drop_end hlt]
        have : outSum [] = 0 := rfl
        rw [this, Int.add_zero]
      have Hy := Lib.hid hy; clear hy
      go_wp2
      go_ret2
      exact ⟨ret_pairI Hy.out, Hbw2.out⟩
    case pos =>
      obtain ⟨b, o, A1, c1, A2, c2, r, hd, rfl, hob, k0, k1, k2, k3, k4, k5, k6, hat, hl1, hl2⟩ := Hw2.out.getRulAt hlt
      have ho := Hso.out r (mem_of_drop hd.out)
      have hk0 : (0 : Int) ≤ (k : Int) := Int.natCast_nonneg _
      have hk1 : (k : Int) < (rs.length : Int) := by omega
      clear k0 k1 k2 k3 k4 k5
      go_wp2
      go_round
      case rel =>
        refine ⟨k + 1, hlt, by go_num, s + (r.out.length : Int), by go_num, by omega, by omega, ?_⟩
        unfold Hid; rw [hsum.out, hd.out, outSum_cons]; omega
      case measure => simp [intOf]; omega
theorem own_old {w w' : World} {e : TypeId} {B : Nat} {A : Option Addr} {n c : Nat} {xs : List Mod} (h : Own pModF e B (B ≤ ·) w (.slice A n c) xs) (hb : Below w.heap.size w w') : xs.length = n ∧ SlAt pMod (Old w') w' A c xs := by
  obtain ⟨A', c', hv, hs⟩ := (h.later hb).fresh
  injection hv with h1 h2 h3
  subst h1 h2 h3
  exact ⟨rfl, (slAt_modF hs).wide fun q hq => hq.2⟩
theorem own_oldM {w w' : World} {e : TypeId} {B : Nat} {A : Option Addr} {n c : Nat} {xs : List Mod} (h : Own pMod e B (B ≤ ·) w (.slice A n c) xs) (hb : Below w.heap.size w w') : xs.length = n ∧ SlAt pMod (Old w') w' A c xs := by
  obtain ⟨A', c', hv, hs⟩ := (h.later hb).fresh
  injection hv with h1 h2 h3
  subst h1 h2 h3
  exact ⟨rfl, hs.wide fun q hq => hq.2⟩

set_option maxRecDepth 100000 in
theorem expand_calls (B : Option Addr) (cb : Nat) (ms : List Mod) (A : Option Addr) (c : Nat) (rs : List Rul) (w : World) (h : SlAt pRul (Old w) w A c rs) (h' : SlAt pMod (Old w) w B cb ms) (hs : Small rs) :
    Calls Try.prog 18 #[.slice B ms.length cb, .slice A rs.length c] w (RRunPost rs ms rs.length w) := by
  have hmx := h.lenle
  have hmx' := h'.lenle
  have hck := rRun_calls A c rs B cb ms rs.length w h h' hs (fits_i64 (by omega))
  unfold RRunPost at hck ⊢
  generalize rRunF rs ms rs.length = r at hck ⊢
  obtain ⟨v, ee⟩ := r
  simp only at hck ⊢
  have H := Lib.hid h; clear h
  have H' := Lib.hid h'; clear h'
  have Hck := Lib.hid hck; clear hck
  go_enter Try.func18, Try.ntmps18
  go_wp2_with fail
  refine Hck.out.mono ?_
  rintro e w1 ⟨A2, c2, rfl, ho, hb1⟩
  have Ho := Lib.hid ho; clear ho
  have Hb1 := Lib.hid hb1; clear hb1
  go_wp2
  go_ret2
  exact ⟨A2, c2, rfl, Ho.out, Hb1.out⟩
set_option maxRecDepth 100000 in
theorem refExpand_calls (B : Option Addr) (cb : Nat) (ms : List Mod) (A : Option Addr) (c : Nat) (rs : List Rul) (w : World) (h : SlAt pRul (Old w) w A c rs) (h' : SlAt pMod (Old w) w B cb ms) (hs : Small rs) :
    Calls Try.prog 19 #[.slice B ms.length cb, .slice A rs.length c] w (RefRunPost rs ms rs.length w) := by
  have hmx := h.lenle
  have hmx' := h'.lenle
  have hck := refRun_calls A c rs B cb ms rs.length w h h' hs (fits_i64 (by omega))
  unfold RefRunPost at hck ⊢
  generalize rRunF rs ms rs.length = r at hck ⊢
  obtain ⟨v, ee⟩ := r
  simp only at hck ⊢
  have H := Lib.hid h; clear h
  have H' := Lib.hid h'; clear h'
  have Hck := Lib.hid hck; clear hck
  go_enter Try.func19, Try.ntmps19
  go_wp2_with fail
  refine Hck.out.mono ?_
  rintro e w1 ⟨A2, c2, rfl, ho, hb1⟩
  have Ho := Lib.hid ho; clear ho
  have Hb1 := Lib.hid hb1; clear hb1
  go_wp2
  go_ret2
  exact ⟨A2, c2, rfl, Ho.out, Hb1.out⟩

set_option maxRecDepth 100000 in
set_option maxHeartbeats 4000000 in
theorem inferSizes_walk (B : Option Addr) (cb : Nat) (ms : List Mod) (A : Option Addr) (c : Nat) (rs : List Rul) (w : World) (h' : SlAt pMod (Old w) w B cb ms) (h : SlAt pRul (Old w) w A c rs) :
    Calls Try.prog 5 #[.slice B ms.length cb, .slice A rs.length c] w (OkPost w) := by
  have hmx := h.lenle
  have hmy := h'.lenle
  have gr := greatR_calls A c rs w h
  have gw := great_calls B cb ms w h'
  have H := Lib.hid h; clear h
  have H' := Lib.hid h'; clear h'
  have gr' : Calls Try.prog 15 #[.slice A rs.length c] w fun e w' => e = .returned (.bool (greatR rs)) ∧ w = w' := gr
  clear gr
  cases hgw : greatF ms
  case true =>
    rw [hgw] at gw
    have Gr' := Lib.hid gr'; clear gr'
    have Gw := Lib.hid gw; clear gw
    have Hgw := Lib.hid hgw; clear hgw
    go_enter Try.func5, Try.ntmps5
    go_wp2_with (first | (go_at_call 15; refine Gr'.out.mono ?_; rintro e w' ⟨rfl, rfl⟩) | (go_at_call 6; refine Gw.out.mono ?_; rintro e w' ⟨rfl, rfl⟩))
    go_ret
    exact ⟨rfl, Below.refl _ _⟩
  case false =>
  rw [hgw] at gw
  cases hgr : greatR rs
  case true =>
    rw [hgr] at gr'
    have Gr' := Lib.hid gr'; clear gr'
    have Gw := Lib.hid gw; clear gw
    have Hgr := Lib.hid hgr; clear hgr
    have Hgw := Lib.hid hgw; clear hgw
    go_enter Try.func5, Try.ntmps5
    go_wp2_with (first | (go_at_call 15; refine Gr'.out.mono ?_; rintro e w' ⟨rfl, rfl⟩) | (go_at_call 6; refine Gw.out.mono ?_; rintro e w' ⟨rfl, rfl⟩))
    go_ret
    exact ⟨rfl, Below.refl _ _⟩
  case false =>
  rw [hgr] at gr'
  have hs := small_of hgr
  by_cases hn6 : (6 : Int) < (rs.length : Int) ∧ (rs.length : Int) ≤ 30
  · obtain ⟨hn6, hn30⟩ := hn6
    have Gr' := Lib.hid gr'; clear gr'
    have Gw := Lib.hid gw; clear gw
    have Hgr := Lib.hid hgr; clear hgr
    have Hgw := Lib.hid hgw; clear hgw
    have Hs := Lib.hid hs; clear hs
    go_enter Try.func5, Try.ntmps5
    go_wp2_with (first | (go_at_call 15; refine Gr'.out.mono ?_; rintro e w' ⟨rfl, rfl⟩) | (go_at_call 6; refine Gw.out.mono ?_; rintro e w' ⟨rfl, rfl⟩))
    go_ret
    exact ⟨rfl, Below.refl _ _⟩
  have hn7 : ¬ (6 : Int) < (rs.length : Int) ∨ ((6 : Int) < (rs.length : Int) ∧ ¬ (rs.length : Int) ≤ 30) := by omega
  clear hn6
  obtain ⟨x1, hx1⟩ : ∃ x, sizeF ms rs = x := ⟨_, rfl⟩
  have c1 := fun (W : World) (hb : Below w.heap.size w W) => size_calls B cb ms A c rs W (H.out.later hb) (H'.out.later hb) hs
  have c2 := fun (W : World) (hb : Below w.heap.size w W) => refSize_calls B cb ms A c rs W (H.out.later hb) (H'.out.later hb) hs
  have c3 := fun (W : World) (hb : Below w.heap.size w W) => expand_calls B cb ms A c rs W (H.out.later hb) (H'.out.later hb) hs
  have c4 := fun (W : World) (hb : Below w.heap.size w W) => refExpand_calls B cb ms A c rs W (H.out.later hb) (H'.out.later hb) hs
  simp only [hx1] at c1 c2
  unfold RRunPost at c3
  unfold RefRunPost at c4
  obtain ⟨r2, hr2⟩ : ∃ r2, rRunF rs ms rs.length = r2 := ⟨_, rfl⟩
  rw [hr2] at c3 c4
  obtain ⟨v2, e2⟩ := r2
  simp only at c3 c4
  have Gr' := Lib.hid gr'; clear gr'
  have Gw := Lib.hid gw; clear gw
  have Hgr := Lib.hid hgr; clear hgr
  have Hgw := Lib.hid hgw; clear hgw
  have Hs := Lib.hid hs; clear hs
  have C1 := Lib.hid c1; clear c1
  have C2 := Lib.hid c2; clear c2
  have C3 := Lib.hid c3; clear c3
  have C4 := Lib.hid c4; clear c4
  have Hx1 := Lib.hid hx1; clear hx1
  have Hr2 := Lib.hid hr2; clear hr2
  rcases hn7 with hn7 | ⟨hn7, hn8⟩
  all_goals
    go_enter Try.func5, Try.ntmps5
    go_wp2_with (first | (go_at_call 15; refine Gr'.out.mono ?_; rintro e w' ⟨rfl, rfl⟩) | (go_at_call 6; refine Gw.out.mono ?_; rintro e w' ⟨rfl, rfl⟩))
    refine (C1.out w (Below.refl _ _)).mono ?_
    rintro e w1 ⟨rfl, hb1⟩
    have z1 := hb1.size
    have Hb1 := Lib.hid hb1; clear hb1
    go_wp2_with fail
    refine (C2.out w1 Hb1.out).mono ?_
    rintro e w2 ⟨rfl, hb2⟩
    have Hb2 := Lib.hid (Hb1.out.trans (hb2.mono z1)); clear hb2
    have z2 := Hb2.out.size
    go_wp2_with fail
    refine (C3.out w2 Hb2.out).mono ?_
    rintro e w3 ⟨A3, c3, rfl, own3, hb3⟩
    have hb03 := Hb2.out.trans (hb3.mono z2)
    have z3 := hb3.size
    have z03 := hb03.size
    have Hb3 := Lib.hid hb3; clear hb3
    have Hb03 := Lib.hid hb03; clear hb03
    have Own3 := Lib.hid own3; clear own3
    go_wp2_with fail
    refine (C4.out w3 Hb03.out).mono ?_
    rintro e w4 ⟨A4, c4, rfl, own4, hb4⟩
    have hb04 := Hb03.out.trans (hb4.mono z03)
    have z4 := hb4.size
    have z04 := hb04.size
    have sab := refSame_calls A3 A4 c3 c4 v2 v2 w4 (own_old Own3.out hb4).2 (own_oldM own4 (Below.refl _ _)).2
    rw [beq_self_eq_true] at sab
    have Hb4 := Lib.hid hb4; clear hb4
    have Hb04 := Lib.hid hb04; clear hb04
    have Own4 := Lib.hid own4; clear own4
    have Sab := Lib.hid sab; clear sab
    go_wp2_with fail
    refine Sab.out.mono ?_
    rintro e w5 ⟨rfl, hb5⟩
    have hb05 := Hb04.out.trans (hb5.mono z04)
    have Hb05 := Lib.hid hb05; clear hb05
    clear hb5
    go_wp2
    go_ret
    exact ⟨rfl, Hb05.out⟩
end Go.Proofs.Ytnffihghhkapjaa
