/-
  Layer 7: the walks of Many and of the two Checks.
-/
import Derived.Test.YtlipmagkplbkdaaDoorFd
namespace Go.Proofs.YtlipmagkplbkdaaDoor
open Go.RowKit Go.Sort

/-- rules that are not great -/
structure Small (rs : List Rul) : Prop where
  l : rs.length ≤ 50
  g : ∀ r ∈ rs, r.guards.length ≤ 10
  o : ∀ r ∈ rs, r.out.length ≤ 30
  a : ∀ r ∈ rs, ∀ s ∈ r.out, s.args.length ≤ 10

theorem RulAt.to {r : Rul} {w wo W : World} {A : Option Addr} {c : Nat} {A' : Option Addr} {c' : Nat} (h : RulAt r (Old w) wo A c A' c') (hs : w.heap.size ≤ wo.heap.size) (hb : Below wo.heap.size wo W) : RulAt r (Old W) W A c A' c' :=
  have hk : ∀ q, Old w q → W.heap[q]? = wo.heap[q]? := fun q hq => hb.block q (Nat.lt_of_lt_of_le hq hs)
  have hw : ∀ q, Old w q → Old W q := fun _ hq => Nat.lt_of_lt_of_le hq (Nat.le_trans hs hb.size)
  ⟨h.fn, h.fa, h.fl, h.fr, h.fw, (h.sg.keep hk).wide hw, (h.so.keep hk).wide hw⟩
theorem SlAt.getRulAt {F : Nat → Prop} {w : World} {A : Option Addr} {cap : Nat} {xs : List Rul} (h : SlAt pRul F w A cap xs) {i : Nat} (hi : i < xs.length) :
    ∃ b o A' c' A'' c'' m, Hid (xs.drop i = m :: xs.drop (i + 1)) ∧ A = some ⟨b, o, none⟩ ∧ F b ∧
      w.cell? ⟨b, o + i * 7, none⟩ = some (.int .u8 m.name) ∧ w.cell? ⟨b, o + i * 7 + 1, none⟩ = some (.int .i64 m.arity) ∧ w.cell? ⟨b, o + i * 7 + 2, none⟩ = some (.int .u8 m.left) ∧ w.cell? ⟨b, o + i * 7 + 3, none⟩ = some (.int .u8 m.right) ∧
      w.cell? ⟨b, o + i * 7 + 4, none⟩ = some (.slice A' m.guards.length c') ∧ w.cell? ⟨b, o + i * 7 + 5, none⟩ = some (.int .i64 m.weight) ∧ w.cell? ⟨b, o + i * 7 + 6, none⟩ = some (.slice A'' m.out.length c'') ∧
      Hid (RulAt m F w A' c' A'' c'') ∧ m.guards.length ≤ 9223372036854775807 ∧ m.out.length ≤ 9223372036854775807 := by
  obtain ⟨b, o, A', c', A'', c'', m, h0, h1, h2, k0, k1, k2, k3, k4, k5, k6, ⟨f1, f2, f3, f4, f5⟩, hg, ho, l1, l2⟩ := h.getRul hi
  exact ⟨b, o, A', c', A'', c'', m, h0, h1, h2, k0, k1, k2, k3, k4, k5, k6, ⟨f1, f2, f3, f4, f5, hg.out, ho.out⟩, l1, l2⟩

def manyB (r : Rul) : Bool := decide (4 < r.guards.length) || decide (20 < r.out.length)
theorem manyR_of {rs : List Rul} (h : ¬ 40 < rs.length) : manyR rs = rs.any manyB := by
  unfold manyR manyB; rw [show decide (40 < rs.length) = false from by simpa using h]; rfl
theorem manyB_no {r : Rul} (h1 : ¬ 4 < r.guards.length) (h2 : ¬ 20 < r.out.length) : manyB r = false := by unfold manyB; simp; omega
theorem manyB_yes {r : Rul} (h : 4 < r.guards.length ∨ 20 < r.out.length) : manyB r = true := by unfold manyB; simp; omega

set_option maxRecDepth 100000 in
set_option maxHeartbeats 1000000 in
theorem many_calls {F : Nat → Prop} (A : Option Addr) (c : Nat) (rs : List Rul) (w : World) (h : SlAt pRul F w A c rs) :
    Calls Tryd.prog 50 #[.slice A rs.length c] w fun e w' => e = .returned (.bool (manyR rs)) ∧ w = w' := by
  have hmx := h.lenle
  have H := Lib.hid h; clear h
  by_cases hbig : 40 < rs.length
  · go_enter Tryd.func50, Tryd.ntmps50
    go_wp2
    go_ret
    exact ⟨ret_bool (by unfold manyR; simp [hbig]), rfl⟩
  · have hm := manyR_of hbig
    have Hm := Lib.hid hm; clear hm
    go_enter Tryd.func50, Tryd.ntmps50
    go_wp2
    go_loop [3] (fun i => ∃ k : Nat, k ≤ rs.length ∧ i = .int .i64 k ∧ Hid (rs.any manyB = (rs.drop k).any manyB)) (fun i => rs.length - (intOf i).toNat)
    case atStart => exact ⟨0, Nat.zero_le _, rfl, rfl⟩
    case round =>
      obtain ⟨k, hk, rfl, hall⟩ := hrel
      by_cases hlt : k < rs.length
      · obtain ⟨b, o, A1, c1, A2, c2, r, hd, rfl, hob, k0, k1, k2, k3, k4, k5, k6, _, hl1, hl2⟩ := H.out.getRulAt hlt
        clear k0 k1 k2 k3 k5
        by_cases hg : 4 < r.guards.length
        · go_wp2
          go_ret
          exact ⟨ret_bool (by rw [Hm.out, hall.out, hd.out, List.any_cons, manyB_yes (.inl hg)]; rfl), rfl⟩
        · by_cases ho : 20 < r.out.length
          · go_wp2
            go_ret
            exact ⟨ret_bool (by rw [Hm.out, hall.out, hd.out, List.any_cons, manyB_yes (.inr ho)]; rfl), rfl⟩
          · go_wp2
            go_round
            case rel =>
              refine ⟨k + 1, by omega, by go_num, ?_⟩
              unfold Hid; rw [hall.out, hd.out, List.any_cons, manyB_no (by omega) (by omega)]; rfl
            case measure => simp [intOf]; omega
      · go_wp2
        go_ret
        exact ⟨ret_bool (by rw [Hm.out, hall.out, drop_end hlt]; rfl), rfl⟩

theorem checkR_many {rs : List Rul} (h : manyR rs = true) : checkR rs = 4 := by unfold checkR; rw [if_pos h]
theorem checkR_all {rs : List Rul} (h : manyR rs = false) : checkR rs = if rs.all fineR = true then 0 else 8 := by unfold checkR; rw [if_neg (by rw [h]; decide)]

set_option maxRecDepth 100000 in
set_option maxHeartbeats 2000000 in
theorem rCheck_calls (A : Option Addr) (c : Nat) (rs : List Rul) (w : World) (h : SlAt pRul (Old w) w A c rs) (hs : Small rs) :
    Calls Tryd.prog 49 #[.slice A rs.length c] w (IntPost (checkR rs) w) := by
  have hmx := h.lenle
  have H := Lib.hid h; clear h
  have Hs := Lib.hid hs; clear hs
  by_cases hbig : 40 < rs.length
  · go_enter Tryd.func49, Tryd.ntmps49
    go_wp2
    go_ret
    exact ⟨ret_int (by rw [checkR_many (by unfold manyR; simp [hbig])]), Below.refl _ _⟩
  · have hm := manyR_of hbig
    have Hm := Lib.hid hm; clear hm
    go_enter Tryd.func49, Tryd.ntmps49
    go_wp2
    go_loopw [12] (fun i wr => ∃ k : Nat, k ≤ rs.length ∧ i = .int .i64 k ∧ Hid (Below w.heap.size w wr) ∧ w.heap.size ≤ wr.heap.size ∧ Hid (rs.any manyB = (rs.drop k).any manyB)) (fun i _ => rs.length - (intOf i).toNat)
    case atStart => exact ⟨0, Nat.zero_le _, rfl, Below.refl _ _, Nat.le_refl _, rfl⟩
    case round =>
      obtain ⟨k, hk, rfl, hb, hsz, hall⟩ := hrel
      obtain ⟨wo, rfl⟩ : ∃ wo : World, wo = wr := ⟨_, rfl⟩
      by_cases hlt : k < rs.length
      · obtain ⟨b, o, A1, c1, A2, c2, r, hd, rfl, hob, k0, k1, k2, k3, k4, k5, k6, _, hl1, hl2⟩ := (H.out.below hb.out).getRulAt hlt
        have hob' : b < wo.heap.size := Nat.lt_of_lt_of_le hob hsz
        by_cases hg : 4 < r.guards.length
        · go_wp2
          go_ret
          exact ⟨ret_int (by rw [checkR_many (by rw [Hm.out, hall.out, hd.out, List.any_cons, manyB_yes (.inl hg)]; rfl)]), hb.out.alloc hsz _⟩
        · by_cases ho : 20 < r.out.length
          · go_wp2
            go_ret
            exact ⟨ret_int (by rw [checkR_many (by rw [Hm.out, hall.out, hd.out, List.any_cons, manyB_yes (.inr ho)]; rfl)]), hb.out.alloc hsz _⟩
          · go_wp2
            go_roundw
            case rel =>
              refine ⟨k + 1, by omega, by go_num, hb.out.alloc hsz _, by simp; omega, ?_⟩
              unfold Hid; rw [hall.out, hd.out, List.any_cons, manyB_no (by omega) (by omega)]; rfl
            case measure => simp [intOf]; omega
      · have hck := checkR_all (rs := rs) (by rw [Hm.out, hall.out, drop_end hlt]; rfl)
        have Hck := Lib.hid hck; clear hck
        clear hall
        go_wp2
        clear hlt
        go_loopw [29] (fun i wr => ∃ k : Nat, k ≤ rs.length ∧ i = .int .i64 k ∧ Hid (Below w.heap.size w wr) ∧ w.heap.size ≤ wr.heap.size ∧ Hid (rs.all fineR = (rs.drop k).all fineR)) (fun i _ => rs.length - (intOf i).toNat)
        case atStart => exact ⟨0, Nat.zero_le _, rfl, hb, hsz, rfl⟩
        case round =>
          obtain ⟨j, hj, rfl, hb2, hsz2, hall⟩ := hrel
          obtain ⟨wp, rfl⟩ : ∃ wp : World, wp = wr := ⟨_, rfl⟩
          by_cases hlt : j < rs.length
          · obtain ⟨b, o, A1, c1, A2, c2, r, hd, rfl, hob, k0, k1, k2, k3, k4, k5, k6, hat, hl1, hl2⟩ := (H.out.below hb2.out).getRulAt hlt
            have hob' : b < wp.heap.size := Nat.lt_of_lt_of_le hob hsz2
            have hmem := mem_of_drop hd.out
            have hcall : ∀ W : World, Below wp.heap.size wp W → Calls Tryd.prog 65 #[.agg #[.int .u8 r.name, .int .i64 r.arity, .int .u8 r.left, .int .u8 r.right, .slice A1 r.guards.length c1, .int .i64 r.weight, .slice A2 r.out.length c2]] W (BoolPost (fineR r) W) := fun W hW =>
              rFine_calls r A1 c1 A2 c2 W (hat.out.to hsz2 hW) (Hs.out.g r hmem) (Hs.out.o r hmem) (Hs.out.a r hmem)
            have Hcall := Lib.hid hcall; clear hcall
            have Hmem := Lib.hid hmem; clear hmem
            go_wp2_with fail
            refine (Hcall.out _ ((Below.refl _ _).alloc (Nat.le_refl _) _)).mono ?_
            rintro e w1 ⟨rfl, hb1⟩
            have hbw : Below w.heap.size w w1 := (hb2.out.alloc hsz2 _).trans (hb1.mono (by simp; omega))
            have Hbw := Lib.hid hbw; clear hbw
            clear hb1 k0 k1 k2 k3 k4 k5 k6
            cases hfm : fineR r
            · go_wp2
              go_ret
              exact ⟨ret_int (by rw [Hck.out, if_neg (by rw [hall.out, hd.out, List.all_cons, hfm]; simp)]), Hbw.out⟩
            · go_wp2
              go_roundw
              case rel =>
                refine ⟨j + 1, by omega, by go_num, Hbw, Hbw.out.size, ?_⟩
                unfold Hid; rw [hall.out, hd.out, List.all_cons, hfm]; rfl
              case measure => simp [intOf]; omega
          · go_wp2
            go_ret
            exact ⟨ret_int (by rw [Hck.out, if_pos (by rw [hall.out, drop_end hlt]; rfl)]), hb2.out⟩

end Go.Proofs.YtlipmagkplbkdaaDoor
