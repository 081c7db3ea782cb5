/-
  WordBack, the walk of the law: it returns true.
-/
import Derived.Test.YtnhdjcdipnginaaDoorPh
import Derived.Test.YtnhdjcdipnginaaDoorWk
namespace Go.Proofs.YtnhdjcdipnginaaDoor
open Go.RowKit Go.Sort

theorem validW_yes {ms : List Mod} (h : validW ms = true) : greatF ms = false ∧ checkF ms = 0 := by
  unfold validW at h
  simpa using h
set_option maxRecDepth 100000 in
set_option maxHeartbeats 4000000 in
theorem wordBack_walk (A : Option Addr) (c : Nat) (ms : List Mod) (w : World) (h : SlAt pMod (Old w) w A c ms) (hL : LibAt w) :
    Calls Tryd.prog 6 #[.slice A ms.length c] w (OkPost w) := by
  have hmx := h.lenle
  have H := Lib.hid h; clear h
  have HL := Lib.hid hL; clear hL
  have out : ∀ (W : World), Below w.heap.size w W → Calls Tryd.prog 15 #[] W fun e W' => e = .returned (.bool true) ∧ Hid (Below w.heap.size w W') := fun W hW => (alive_calls W (HL.out.later hW)).mono fun e W' hh => ⟨hh.1, hW.trans (hh.2.mono hW.size)⟩
  have Out := Lib.hid out; clear out
  cases hv : validW ms
  · go_enter Tryd.func6, Tryd.ntmps6
    go_wp2_with fail
    refine (valid_calls A c ms w H.out).mono ?_
    rintro e w1 ⟨rfl, b1⟩
    rw [hv]
    go_wp2_with fail
    refine (Out.out w1 b1).mono ?_
    rintro e w2 ⟨rfl, b2⟩
    go_wp2
    go_ret
    exact ⟨rfl, b2.out⟩
  obtain ⟨hg, hck⟩ := validW_yes hv
  by_cases hbig : 50000 < (textL ms).length
  · have ht : textF ms = ([], 4) := by unfold textF; rw [if_pos hck, if_pos hbig]
    have Hg := Lib.hid hg; clear hg
    have Hck := Lib.hid hck; clear hck
    go_enter Tryd.func6, Tryd.ntmps6
    go_wp2_with fail
    refine (valid_calls A c ms w H.out).mono ?_
    rintro e w1 ⟨rfl, b1⟩
    rw [hv]
    have T1 := Lib.hid b1; clear b1
    have p2 := text_calls A c ms w1 (H.out.later T1.out) (HL.out.later T1.out)
    unfold TextPost at p2
    rw [ht] at p2
    have P2 := Lib.hid p2; clear p2
    go_wp2_with fail
    refine P2.out.mono ?_
    rintro e w2 ⟨rfl, b2⟩
    have T2 := Lib.hid (T1.out.trans (b2.mono T1.out.size)); clear b2
    go_wp2_with fail
    refine (Out.out w2 T2.out).mono ?_
    rintro e w3 ⟨rfl, b3⟩
    go_wp2
    go_ret
    exact ⟨rfl, b3.out⟩
  · have ht : textF ms = (textL ms, 0) := by unfold textF; rw [if_pos hck, if_neg hbig]
    have hpk := parse_back hck hbig
    have htz : (⟨(textL ms).toArray⟩ : ByteArray).size ≤ 60000 := by
      have : (⟨(textL ms).toArray⟩ : ByteArray).size = (textL ms).length := by show (textL ms).toArray.size = _; simp
      omega
    have Hg := Lib.hid hg; clear hg
    have Hck := Lib.hid hck; clear hck
    have Hpk := Lib.hid hpk; clear hpk
    have Htz := Lib.hid htz; clear htz
    go_enter Tryd.func6, Tryd.ntmps6
    go_wp2_with fail
    refine (valid_calls A c ms w H.out).mono ?_
    rintro e w1 ⟨rfl, b1⟩
    rw [hv]
    have T1 := Lib.hid b1; clear b1
    have p2 := text_calls A c ms w1 (H.out.later T1.out) (HL.out.later T1.out)
    unfold TextPost at p2
    rw [ht] at p2
    have P2 := Lib.hid p2; clear p2
    go_wp2_with fail
    refine P2.out.mono ?_
    rintro e w2 ⟨rfl, b2⟩
    have T2 := Lib.hid (T1.out.trans (b2.mono T1.out.size)); clear b2
    have p3 := parse_calls ⟨(textL ms).toArray⟩ w2 Htz.out (HL.out.later T2.out)
    unfold ParsePost at p3
    rw [show (ByteArray.mk (textL ms).toArray).data.toList = textL ms from rfl, Hpk.out] at p3
    have P3 := Lib.hid p3; clear p3
    go_wp2_with fail
    refine P3.out.mono ?_
    rintro e w3 ⟨A3, c3, rfl, o3, b3⟩
    have S3 := Lib.hid (own_sl o3); clear o3
    have T3 := Lib.hid (T2.out.trans (b3.mono T2.out.size)); clear b3
    have p4 := wordSame_calls A3 A c3 c ms ms w3 S3.out (H.out.later T3.out)
    rw [beq_self_eq_true] at p4
    have P4 := Lib.hid p4; clear p4
    go_wp2_with fail
    refine P4.out.mono ?_
    rintro e w4 ⟨rfl, b4⟩
    have T4 := Lib.hid (T3.out.trans (b4.mono T3.out.size)); clear b4
    go_wp2_with fail
    refine (Out.out w4 T4.out).mono ?_
    rintro e w5 ⟨rfl, b5⟩
    go_wp2
    go_ret
    exact ⟨rfl, b5.out⟩
end Go.Proofs.YtnhdjcdipnginaaDoor
