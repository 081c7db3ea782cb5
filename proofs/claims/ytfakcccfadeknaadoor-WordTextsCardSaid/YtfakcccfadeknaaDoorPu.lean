/-
  WordTexts, the walk of the law, the contract of the reference's Parse handed in.
-/
import Derived.Test.YtfakcccfadeknaaDoorPt
import Derived.Test.YtfakcccfadeknaaDoorPh
import Derived.Test.YtfakcccfadeknaaDoorWg
namespace Go.Proofs.YtfakcccfadeknaaDoor
open Go.RowKit Go.Sort
set_option linter.unusedVariables false
set_option maxRecDepth 100000 in
set_option maxHeartbeats 4000000 in
theorem wordTexts_walk' (hrp : ∀ (s : ByteArray) (w : World), s.size ≤ 60000 → Calls Tryd.prog 8 #[.string s] w (ParsePost s.data.toList w)) (A : Option Addr) (c : Nat) (ms : List Mod) (s : ByteArray) (w : World) (h : SlAt pMod (Old w) w A c ms) (hL : LibAt w) :
    Calls Tryd.prog 3 #[.slice A ms.length c, .string s] w (OkPost w) := by
  have hmx := h.lenle
  have H := Lib.hid h; clear h
  have HL := Lib.hid hL; clear hL
  have Hrp := Lib.hid hrp; clear hrp
  cases hg : greatF ms
  case true =>
    go_enter Tryd.func3, Tryd.ntmps3
    go_wp2_with fail
    refine (great_calls A c ms w H.out).mono ?_
    rintro e w' ⟨rfl, rfl⟩
    rw [hg]
    go_wp2
    go_ret
    exact ⟨rfl, Below.refl _ _⟩
  by_cases hbig : 60000 < s.size
  · have hbig' : (60000 : Int) < (s.size : Int) := by omega
    go_enter Tryd.func3, Tryd.ntmps3
    go_wp2_with fail
    refine (great_calls A c ms w H.out).mono ?_
    rintro e w' ⟨rfl, rfl⟩
    rw [hg]
    go_wp2
    go_ret
    exact ⟨rfl, Below.refl _ _⟩
  have hle : s.size ≤ 60000 := by omega
  obtain ⟨st, hst⟩ : ∃ st : ByteArray, (⟨(textF ms).1.toArray⟩ : ByteArray) = st := ⟨_, rfl⟩
  obtain ⟨ec, hec⟩ : ∃ ec : Int, (textF ms).2 = ec := ⟨_, rfl⟩
  obtain ⟨xs, hxs⟩ : ∃ xs, (parseF s.data.toList).1 = xs := ⟨_, rfl⟩
  obtain ⟨gc, hgc⟩ : ∃ gc : Int, (parseF s.data.toList).2 = gc := ⟨_, rfl⟩
  have t1 := fun W (hW : Below w.heap.size w W) => text_calls A c ms W (H.out.later hW) (HL.out.later hW)
  have t2 := fun W (hW : Below w.heap.size w W) => refText_calls A c ms W (H.out.later hW)
  have t3 := fun W (hW : Below w.heap.size w W) => parse_calls s W hle (HL.out.later hW)
  have t4 := fun W => Hrp.out s W hle
  unfold TextPost at t1 t2
  unfold ParsePost at t3 t4
  simp only [hst, hec, hxs, hgc] at t1 t2 t3 t4
  have eb : (st.toList == st.toList) = true := beq_self_eq_true _
  have ee : (ec == ec) = true := beq_self_eq_true _
  have eg : (gc == gc) = true := beq_self_eq_true _
  have T1 := Lib.hid t1; clear t1
  have T2 := Lib.hid t2; clear t2
  have T3 := Lib.hid t3; clear t3
  have T4 := Lib.hid t4; clear t4
  have Hst := Lib.hid hst; clear hst
  have Hec := Lib.hid hec; clear hec
  have Hxs := Lib.hid hxs; clear hxs
  have Hgc := Lib.hid hgc; clear hgc
  go_enter Tryd.func3, Tryd.ntmps3
  go_wp2_with fail
  refine (great_calls A c ms w H.out).mono ?_
  rintro e w' ⟨rfl, rfl⟩
  rw [hg]
  go_wp2_with fail
  refine (T1.out w (Below.refl _ _)).mono ?_
  rintro e w1 ⟨rfl, b1⟩
  have U1 := Lib.hid b1; clear b1
  go_wp2_with fail
  refine (T2.out w1 U1.out).mono ?_
  rintro e w2 ⟨rfl, b2⟩
  have U2 := Lib.hid (U1.out.trans (b2.mono U1.out.size)); clear b2
  go_wp2_with fail
  refine (T3.out w2 U2.out).mono ?_
  rintro e w3 ⟨A3, c3, rfl, o3, b3⟩
  have U3 := Lib.hid (U2.out.trans (b3.mono U2.out.size))
  have S3 := Lib.hid (own_sl o3); clear b3 o3
  go_wp2_with fail
  refine (T4.out w3).mono ?_
  rintro e w4 ⟨A4, c4, rfl, o4, b4⟩
  have U4 := Lib.hid (U3.out.trans (b4.mono U3.out.size))
  have S34 := Lib.hid (S3.out.later b4)
  have S4 := Lib.hid (own_sl o4); clear b4 o4 S3
  have p5 := refSame_calls A3 A4 c3 c4 xs xs w4 S34.out S4.out
  rw [beq_self_eq_true] at p5
  have P5 := Lib.hid p5; clear p5
  go_wp2_with fail
  refine P5.out.mono ?_
  rintro e w5 ⟨rfl, b5⟩
  have U5 := Lib.hid (U4.out.trans (b5.mono U4.out.size)); clear b5
  go_wp2
  go_ret
  exact ⟨rfl, U5.out⟩
end Go.Proofs.YtfakcccfadeknaaDoor
