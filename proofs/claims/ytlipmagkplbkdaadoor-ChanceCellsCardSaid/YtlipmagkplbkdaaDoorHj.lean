/-
  Layer 9: the walk of the reference's Check.
-/
import Derived.Test.YtlipmagkplbkdaaDoorHi
namespace Go.Proofs.YtlipmagkplbkdaaDoor
open Go.RowKit Go.Sort
set_option linter.unusedVariables false

def fineC (r : Rul) : Bool := coreR r && (r.left == 0) && (r.right == 0) && okW r
theorem checkC_many {rs : List Rul} (h : manyR rs = true) : checkC rs = 4 := by unfold checkC; rw [if_pos h]
theorem checkC_all {rs : List Rul} (h : manyR rs = false) : checkC rs = if rs.all fineC = true then 0 else 8 := by unfold checkC; rw [if_neg (by rw [h]; decide)]; rfl
set_option maxRecDepth 100000 in
set_option maxHeartbeats 2000000 in
theorem refCheckC_calls (A : Option Addr) (c : Nat) (rs : List Rul) (w : World) (h : SlAt pRul (Old w) w A c rs) (hs : Small rs) :
    Calls Tryd.prog 22 #[.slice A rs.length c] w (IntPost (checkC rs) w) := by
  have hmx := h.lenle
  have H := Lib.hid h; clear h
  have Hs := Lib.hid hs; clear hs
  cases hmm : manyR rs
  · have hck := checkC_all hmm
    have Hck := Lib.hid hck; clear hck
    have Hmm := Lib.hid hmm; clear hmm
    go_enter Tryd.func22, Tryd.ntmps22
    go_wp2_with fail
    refine (many_calls A c rs _ H.out).mono ?_
    rintro e w' ⟨rfl, rfl⟩
    rw [Hmm.out]
    go_wp2
    go_loopw [3] (fun i wr => ∃ k : Nat, k ≤ rs.length ∧ i = .int .i64 k ∧ Hid (Below w.heap.size w wr) ∧ w.heap.size ≤ wr.heap.size ∧ Hid (rs.all fineC = (rs.drop k).all fineC)) (fun i _ => rs.length - (intOf i).toNat)
    case atStart => exact ⟨0, Nat.zero_le _, rfl, Below.refl _ _, Nat.le_refl _, rfl⟩
    case round =>
      obtain ⟨j, hj, rfl, hb2, hsz2, hall⟩ := hrel
      obtain ⟨wp, rfl⟩ : ∃ wp : World, wp = wr := ⟨_, rfl⟩
      by_cases hlt : j < rs.length
      · obtain ⟨b, o, A1, c1, A2, c2, r, hd, rfl, hob, k0, k1, k2, k3, k4, k5, k6, hat, hl1, hl2⟩ := (H.out.below hb2.out).getRulAt hlt
        have hob' : b < wp.heap.size := Nat.lt_of_lt_of_le hob hsz2
        have hmem := mem_of_drop hd.out
        have hcall : Calls Tryd.prog 51 #[.agg #[.int .u8 r.name, .int .i64 r.arity, .int .u8 r.left, .int .u8 r.right, .slice A1 r.guards.length c1, .int .i64 r.weight, .slice A2 r.out.length c2]] wp (BoolPost (coreR r) wp) :=
          refRFine_calls r A1 c1 A2 c2 wp (hat.out.to hsz2 (Below.refl _ _)) (Hs.out.g r hmem) (Hs.out.o r hmem) (Hs.out.a r hmem)
        have Hcall := Lib.hid hcall; clear hcall
        have Hmem := Lib.hid hmem; clear hmem
        go_wp2_with fail
        refine (Hcall.out).mono ?_
        rintro e w1 ⟨rfl, hb1⟩
        have hbw : Below w.heap.size w w1 := hb2.out.trans (hb1.mono hsz2)
        have l0 := (hb1.cell (p := ⟨b, o + j * 7 + 2, none⟩) hob').trans k2
        have l1 := (hb1.cell (p := ⟨b, o + j * 7 + 3, none⟩) hob').trans k3
        have l2 := (hb1.cell (p := ⟨b, o + j * 7 + 5, none⟩) hob').trans k5
        have Hbw := Lib.hid hbw; clear hbw
        clear hb1 k0 k1 k2 k3 k4 k5 k6
        have hcs : (fineC r = false ∧ (coreR r = false ∨ (coreR r = true ∧ (r.left != 0) = true) ∨ (coreR r = true ∧ (r.left != 0) = false ∧ (r.right != 0) = true) ∨ (coreR r = true ∧ (r.left != 0) = false ∧ (r.right != 0) = false ∧ r.weight < 1) ∨ (coreR r = true ∧ (r.left != 0) = false ∧ (r.right != 0) = false ∧ ¬ r.weight < 1 ∧ 1000000 < r.weight))) ∨
            (fineC r = true ∧ coreR r = true ∧ (r.left != 0) = false ∧ (r.right != 0) = false ∧ ¬ r.weight < 1 ∧ ¬ 1000000 < r.weight) := by
          unfold fineC okW
          cases coreR r
          · exact .inl ⟨rfl, .inl rfl⟩
          · by_cases h1 : r.left = 0
            · by_cases h2 : r.right = 0
              · by_cases h3 : r.weight < 1
                · left; simp [h1, h2, h3]; omega
                · by_cases h4 : 1000000 < r.weight
                  · left; simp [h1, h2, h3, h4]
                  · right; simp [h1, h2, h3, h4]; omega
              · left; simp [h1, h2]
            · left; simp [h1]
        rcases hcs with ⟨hfm, hcs⟩ | ⟨hfm, hc0, hc1, hc2, hc3, hc4⟩
        · have hno : checkC rs = 8 := by rw [Hck.out, if_neg (by rw [hall.out, hd.out, List.all_cons, hfm]; simp)]
          have Hno := Lib.hid hno; clear hno
          have Hfm := Lib.hid hfm; clear hfm
          rcases hcs with hc0 | ⟨hc0, hc1⟩ | ⟨hc0, hc1, hc2⟩ | ⟨hc0, hc1, hc2, hc3⟩ | ⟨hc0, hc1, hc2, hc3, hc4⟩
          all_goals
            rw [hc0]
            have Hc0 := Lib.hid hc0; clear hc0
            go_wp2
            go_ret
            exact ⟨by rw [Hno.out]; rfl, Hbw.out⟩
        · have Hfm := Lib.hid hfm; clear hfm
          rw [hc0]
          have Hc0 := Lib.hid hc0; clear hc0
          go_wp2
          go_roundw
          case rel =>
            refine ⟨j + 1, by omega, by go_num, Hbw, Hbw.out.size, ?_⟩
            unfold Hid; rw [hall.out, hd.out, List.all_cons, Hfm.out]; rfl
          case measure => simp [intOf]; omega
      · go_wp2
        go_ret
        exact ⟨ret_int (by rw [Hck.out, if_pos (by rw [hall.out, drop_end hlt]; rfl)]), hb2.out⟩
  · have hck := checkC_many hmm
    have Hck := Lib.hid hck; clear hck
    have Hmm := Lib.hid hmm; clear hmm
    go_enter Tryd.func22, Tryd.ntmps22
    go_wp2_with fail
    refine (many_calls A c rs _ H.out).mono ?_
    rintro e w' ⟨rfl, rfl⟩
    rw [Hmm.out]
    go_wp2
    go_ret
    exact ⟨by rw [Hck.out]; rfl, Below.refl _ _⟩
end Go.Proofs.YtlipmagkplbkdaaDoor
