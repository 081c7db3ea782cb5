/-
  Layer 8: the walks of the reference's Check, of check and open.
-/
import Derived.Test.YtpeknefmjdipmaaGreatDoorCe
namespace Go.Proofs.YtpeknefmjdipmaaGreatDoor
open Go.RowKit Go.Sort

def refFineC (r : Rul) : Bool := coreR r && sideR r && r.weight == 0
theorem many_bare (rs : List Rul) : manyR (rs.map bareN) = manyR rs := by
  unfold manyR
  rw [List.length_map, List.any_map]
  rfl
theorem checkC_ref (rs : List Rul) (p : ByteArray) : checkC rs p = if manyR rs = true then 4 else if rs.all refFineC = true then (if ignF p = true then 0 else 8) else 8 := by
  rw [checkC_mapped]
  unfold checkR
  rw [many_bare, List.all_map]
  by_cases hm : manyR rs = true
  · rw [if_pos hm, if_pos hm]; rfl
  · rw [if_neg hm, if_neg hm]
    have e : rs.all refFineC = (rs.all (fineR ∘ bareN) && rs.all sideR) := by
      rw [Bool.eq_iff_iff, Bool.and_eq_true, List.all_eq_true, List.all_eq_true, List.all_eq_true]
      have h1 : ∀ r : Rul, (fineR ∘ bareN) r = (coreR r && r.weight == 0) := fun r => by
        show (coreR (bareN r) && bareR (bareN r)) = _
        have e1 : coreR (bareN r) = coreR r := rfl
        have e2 : bareR (bareN r) = (r.weight == 0) := by unfold bareR bareN; simp
        rw [e1, e2]
      constructor
      · intro h
        refine ⟨fun r hr => ?_, fun r hr => ?_⟩
        · have := h r hr; unfold refFineC at this; rw [h1]; simp only [Bool.and_eq_true] at this ⊢; exact ⟨this.1.1, this.2⟩
        · have := h r hr; unfold refFineC at this; simp only [Bool.and_eq_true] at this; exact this.1.2
      · rintro ⟨h2, h3⟩ r hr
        have h4 := h2 r hr
        rw [h1] at h4
        unfold refFineC
        simp only [Bool.and_eq_true] at h4 ⊢
        exact ⟨⟨h4.1, h3 r hr⟩, h4.2⟩
    rw [e]
    by_cases h1 : rs.all (fineR ∘ bareN) = true <;> by_cases h2 : rs.all sideR = true <;> by_cases h3 : ignF p = true <;> simp [h1, h2, h3]
theorem refFine_cases (r : Rul) : (refFineC r = false ∧ coreR r = false) ∨ (coreR r = true ∧ ((refFineC r = false ∧ (r.left != 0) = true ∧ plainC r.left = false) ∨
    (((r.left != 0) = false ∨ ((r.left != 0) = true ∧ plainC r.left = true)) ∧ ((refFineC r = false ∧ (r.right != 0) = true ∧ plainC r.right = false) ∨
      (((r.right != 0) = false ∨ ((r.right != 0) = true ∧ plainC r.right = true)) ∧ ((refFineC r = false ∧ (r.weight != 0) = true) ∨ (refFineC r = true ∧ (r.weight != 0) = false))))))) := by
  have e1 : (r.left != 0) = !(r.left == 0) := rfl
  have e2 : (r.right != 0) = !(r.right == 0) := rfl
  have e3 : (r.weight != 0) = !(r.weight == 0) := rfl
  unfold refFineC sideR sideOk
  rw [e1, e2, e3]
  cases coreR r <;> cases (r.left == 0) <;> cases plainC r.left <;> cases (r.right == 0) <;> cases plainC r.right <;> cases (r.weight == 0) <;> simp

set_option maxRecDepth 100000 in
set_option maxHeartbeats 4000000 in
theorem refCCheck_calls (A : Option Addr) (c : Nat) (rs : List Rul) (p : ByteArray) (w : World) (h : SlAt pRul (Old w) w A c rs) (hs : Small rs) (hp : p.size ≤ 1000) :
    Calls Tryz.prog 17 #[.slice A rs.length c, .string p] w (IntPost (checkC rs p) w) := by
  have hmx := h.lenle
  have hcm := checkC_ref rs p
  have hmc := many_calls A c rs w h
  cases hm : manyR rs
  case true =>
    rw [hm] at hmc hcm
    have H := Lib.hid h; clear h
    have Hcm := Lib.hid hcm; clear hcm
    have Hmc := Lib.hid hmc; clear hmc
    have Hm := Lib.hid hm; clear hm
    go_enter Tryz.func17, Tryz.ntmps17
    go_wp2_with (go_at_call 34; refine Hmc.out.mono ?_; rintro e w' ⟨rfl, rfl⟩)
    go_ret
    exact ⟨ret_int (by rw [Hcm.out]; rfl), Below.refl _ _⟩
  case false =>
  rw [hm] at hmc hcm
  rw [if_neg (by decide)] at hcm
  have H := Lib.hid h; clear h
  have Hcm := Lib.hid hcm; clear hcm
  have Hmc := Lib.hid hmc; clear hmc
  have Hm := Lib.hid hm; clear hm
  go_enter Tryz.func17, Tryz.ntmps17
  go_wp2_with (go_at_call 34; refine Hmc.out.mono ?_; rintro e w' ⟨rfl, rfl⟩)
  go_loopw [5] (fun i wr => ∃ k : Nat, k ≤ rs.length ∧ i = .int .i64 k ∧ Hid (Below w.heap.size w wr) ∧ w.heap.size ≤ wr.heap.size ∧ Hid (rs.all refFineC = (rs.drop k).all refFineC)) (fun i _ => rs.length - (intOf i).toNat)
  case atStart => exact ⟨0, Nat.zero_le _, rfl, Below.refl _ _, Nat.le_refl _, rfl⟩
  case round =>
    obtain ⟨k, hk, rfl, hb, hsz, hall⟩ := hrel
    obtain ⟨wo, rfl⟩ : ∃ wo : World, wo = wr := ⟨_, rfl⟩
    by_cases hlt : k < rs.length
    case neg =>
      have hy := Hcm.out
      rw [hall.out, drop_end hlt, List.all_nil, if_pos rfl] at hy
      have hig := ignored_calls p wo hp
      cases hg : ignF p
      all_goals
        rw [hg] at hy hig
        have Hy := Lib.hid hy; clear hy
        have Hig := Lib.hid hig; clear hig
        have Hg := Lib.hid hg; clear hg
        go_wp2_with fail
        refine Hig.out.mono ?_
        rintro e w2 ⟨rfl, hb2⟩
        have hbw := hb.out.trans (hb2.mono hsz)
        have Hbw := Lib.hid hbw; clear hbw
        clear hb2
        go_wp2
        go_ret
        exact ⟨ret_int (by rw [Hy.out]; rfl), Hbw.out⟩
      done
    case pos =>
      obtain ⟨b, o, A1, c1, A2, c2, r, hd, rfl, hob, k0, k1, k2, k3, k4, k5, k6, hat, hl1, hl2⟩ := (H.out.below hb.out).getRulAt hlt
      have hob' : b < wo.heap.size := by have : b < w.heap.size := hob; omega
      have hmem := mem_of_drop hd.out
      obtain ⟨W1, hW1⟩ : ∃ W1, W1 = wo.alloc (.cells #[.int .u8 r.name, .int .i64 r.arity, .int .u8 r.left, .int .u8 r.right, .slice A1 r.guards.length c1, .int .i64 r.weight, .slice A2 r.out.length c2] 38) := ⟨_, rfl⟩
      have hb1 : Below wo.heap.size wo W1 := by rw [hW1]; exact (Below.refl _ _).alloc (Nat.le_refl _) _
      have hz1 : wo.heap.size + 1 ≤ W1.heap.size := by rw [hW1]; simp
      have hbx : Blk W1 wo.heap.size 38 #[.int .u8 r.name, .int .i64 r.arity, .int .u8 r.left, .int .u8 r.right, .slice A1 r.guards.length c1, .int .i64 r.weight, .slice A2 r.out.length c2] := by rw [hW1]; exact Blk.new _ _ _
      have hcF : ∀ W, Below W1.heap.size W1 W → Calls Tryz.prog 35 #[.agg #[.int .u8 r.name, .int .i64 r.arity, .int .u8 r.left, .int .u8 r.right, .slice A1 r.guards.length c1, .int .i64 r.weight, .slice A2 r.out.length c2]] W fun e W' => e = .returned (.bool (coreR r)) ∧ Below W1.heap.size W1 W' := fun W hW =>
        (refRFine_calls r A1 c1 A2 c2 W (hat.out.to hsz (hb1.trans (hW.mono (by omega)))) (hs.g r hmem) (hs.o r hmem) (hs.a r hmem)).mono fun e W' ⟨he, hb⟩ => ⟨he, hW.trans (hb.mono hW.size)⟩
      have sk : ∀ W, Below W1.heap.size W1 W → W.cell? ⟨wo.heap.size, 2, none⟩ = some (.int .u8 r.left) ∧ W.cell? ⟨wo.heap.size, 3, none⟩ = some (.int .u8 r.right) ∧ W.cell? ⟨wo.heap.size, 5, none⟩ = some (.int .i64 r.weight) := fun W hW => by
        have h1 := hbx.same (hW.block _ (by omega))
        exact ⟨h1.cell 2, h1.cell 3, h1.cell 5⟩
      have hcp := fun (c : Int) (W : World) => refPlain_calls c W
      have hfin : ∀ W, Below W1.heap.size W1 W → Hid (Below w.heap.size w W) ∧ w.heap.size ≤ W.heap.size := fun W hW => by
        have hbo := hb1.trans (hW.mono (by omega))
        exact ⟨hb.out.trans (hbo.mono hsz), by have := hbo.size; omega⟩
      have hno : refFineC r = false → checkC rs p = 8 := fun hf => by
        rw [Hcm.out, hall.out, hd.out, List.all_cons, hf]; rfl
      have hyes : refFineC r = true → rs.all refFineC = (rs.drop (k + 1)).all refFineC := fun hf => by
        rw [hall.out, hd.out, List.all_cons, hf]; rfl
      have hcs := refFine_cases r
      have hbase : Below W1.heap.size W1 W1 := Below.refl _ _
      obtain ⟨x0, x1, x2, x3, x4, x5, x6⟩ := hbx.rul
      have HcF := Lib.hid hcF; clear hcF
      have Sk := Lib.hid sk; clear sk
      have Hcp := Lib.hid hcp; clear hcp
      have Hfin := Lib.hid hfin; clear hfin
      have Hno := Lib.hid hno; clear hno
      have Hyes := Lib.hid hyes; clear hyes
      have Hb1 := Lib.hid hb1; clear hb1
      have Hbx := Lib.hid hbx; clear hbx
      have Hat := Lib.hid hat; clear hat
      go_upto_region 7 with fail
      rw [← hW1]
      have HW1 := Lib.hid hW1; clear hW1
      clear k0 k1 k2 k3 k4 k5 k6
      rcases hcs with ⟨hf, e0⟩ | ⟨e0, (⟨hf, e1, e2⟩ | ⟨(e1 | ⟨e1, e2⟩), (⟨hf, e3, e4⟩ | ⟨(e3 | ⟨e3, e4⟩), (⟨hf, e5⟩ | ⟨hf, e5⟩)⟩)⟩)⟩
      all_goals
        have Hf := Lib.hid hf; clear hf
        go_wp2_with (first
          | (go_at_call 35; (with_reducible refine (HcF.out _ ?_).mono ?_); (first | assumption | exact hbase); rintro e wv ⟨rfl, hBv⟩; obtain ⟨z2, z3, z5⟩ := Sk.out _ hBv)
          | (go_at_call 36; (with_reducible refine (Hcp.out _ _).mono ?_); rintro e w' ⟨rfl, rfl⟩))
        (first
          | (go_ret; exact ⟨ret_int (Hno.out Hf.out).symm, (Hfin.out _ hBv).1.out⟩)
          | (go_roundw
             case rel => exact ⟨k + 1, hlt, by go_num, (Hfin.out _ hBv).1, (Hfin.out _ hBv).2, Hyes.out Hf.out⟩
             case measure => simp [intOf]; omega))
end Go.Proofs.YtpeknefmjdipmaaGreatDoor
