/-
  Layer 8: the walks of open and Find.
-/
import Derived.Test.YtpeknefmjdipmaaGreatDoorCi
import Derived.Laws.ResultCell
namespace Go.Proofs.YtpeknefmjdipmaaGreatDoor
open Go.RowKit Go.Sort

theorem results_row_tmp {fn : Func} {p u : Tmp} {ty : TypeId} (h : fn.results = #[.cell p ty, .tmp u]) (tmps : Array Value) (P : Program) (w : World) (g : Nat) (t : TypeId) (cs : Array Value) {fs}
    (hp : tmps.getD p undef = .pointer (some ⟨g, 0, none⟩)) (hg : Blk w g t cs) (hu : P.underlying ty = some (.struct fs)) (hi : (P.info? ty).map (·.size) = some cs.size) :
    (results fn tmps).run P w = .ok (.tuple #[.agg cs, tmps.getD u undef]) w := by
  rw [results_cell_tmp h, hp]
  simp only [asAddr, Sem.run_pure, Result.andThen_ok, run_loadVar_row w g t ty cs (0, 0) _ hg hu rfl hi]
/-- a world whose block g has been written over -/
def set4 (w : World) (g : Nat) (v0 v1 v2 v3 : Value) : World := (((w.setCell ⟨g, 0, none⟩ v0).setCell ⟨g, 1, none⟩ v1).setCell ⟨g, 2, none⟩ v2).setCell ⟨g, 3, none⟩ v3
theorem Blk.set4 {w : World} {g : Nat} {t : TypeId} {a0 a1 a2 a3 : Value} (h : Blk w g t #[a0, a1, a2, a3]) (v0 v1 v2 v3 : Value) : Blk (set4 w g v0 v1 v2 v3) g t #[v0, v1, v2, v3] :=
  (((h.set 0 v0).set 1 v1).set 2 v2).set 3 v3
theorem set4_other (w : World) (g k : Nat) (v0 v1 v2 v3 : Value) (h : k ≠ g) : (set4 w g v0 v1 v2 v3).heap[k]? = w.heap[k]? := by
  unfold set4
  rw [Below.heap_setCell _ _ _ _ h, Below.heap_setCell _ _ _ _ h, Below.heap_setCell _ _ _ _ h, Below.heap_setCell _ _ _ _ h]
theorem set4_below {B : Nat} {a w : World} (h : Below B a w) {g : Nat} (hg : B ≤ g) (v0 v1 v2 v3 : Value) : Below B a (set4 w g v0 v1 v2 v3) :=
  (((h.setCell (p := ⟨g, 0, none⟩) hg v0).setCell (p := ⟨g, 1, none⟩) hg v1).setCell (p := ⟨g, 2, none⟩) hg v2).setCell (p := ⟨g, 3, none⟩) hg v3

def COpenPost (rs : List Rul) (p : ByteArray) (ms : List Mod) (A : Option Addr) (c : Nat) (B : Option Addr) (cb : Nat) (w : World) (e : Ending) (w' : World) : Prop :=
  ∃ X0 n0 c0 X1 n1 c1 X2 n2 c2 X3 n3 c3, e = .returned (.tuple #[.agg #[.slice X0 n0 c0, .slice X1 n1 c1, .slice X2 n2 c2, .slice X3 n3 c3], .int .i64 (openC rs p ms)]) ∧
    (openC rs p ms = 0 → X0 = A ∧ n0 = rs.length ∧ c0 = c ∧ X1 = B ∧ n1 = ms.length ∧ c1 = cb ∧ n2 = ms.length ∧ n3 = ms.length ∧ SlAt (pI .i64) (Old w') w' X2 c2 (leftL p ms) ∧ SlAt (pI .i64) (Old w') w' X3 c3 (rightL p ms)) ∧ Below w.heap.size w w'

set_option maxRecDepth 100000 in
set_option maxHeartbeats 1000000 in
theorem cOpen_calls (A : Option Addr) (c : Nat) (rs : List Rul) (B : Option Addr) (cb : Nat) (ms : List Mod) (p : ByteArray) (w : World) (h : SlAt pRul (Old w) w A c rs) (h' : SlAt pMod (Old w) w B cb ms) (hs : Small rs) (hp : p.size ≤ 1000) :
    Calls Tryz.prog 24 #[.slice A rs.length c, .string p, .slice B ms.length cb] w (COpenPost rs p ms A c B cb w) := by
  obtain ⟨W0, hW0⟩ : ∃ W0, W0 = w.alloc (.cells #[.slice none 0 0, .slice none 0 0, .slice none 0 0, .slice none 0 0] 55) := ⟨_, rfl⟩
  have hb0 : Below w.heap.size w W0 := by rw [hW0]; exact (Below.refl _ _).alloc (Nat.le_refl _) _
  have hz0 : w.heap.size + 1 ≤ W0.heap.size := by rw [hW0]; simp
  have hbl0 : Blk W0 w.heap.size 55 #[.slice none 0 0, .slice none 0 0, .slice none 0 0, .slice none 0 0] := by rw [hW0]; exact Blk.new _ _ _
  have hck := cCheck_calls A c rs p W0 (h.later hb0) hs hp
  have H := Lib.hid h; clear h
  have H' := Lib.hid h'; clear h'
  have Hs := Lib.hid hs; clear hs
  have Hck := Lib.hid hck; clear hck
  have Hb0 := Lib.hid hb0; clear hb0
  have Hbl0 := Lib.hid hbl0; clear hbl0
  go_enter Tryz.func24, Tryz.ntmps24
  go_upto_region 1 with fail
  rw [← hW0]
  have HW0 := Lib.hid hW0; clear hW0
  go_wp2_with fail
  refine Hck.out.mono ?_
  rintro e w1 ⟨rfl, hb1⟩
  have hz1 := hb1.size
  have hbl1 := Hbl0.out.same (hb1.block _ (by omega))
  have hbw1 : Below w.heap.size w w1 := Hb0.out.trans (hb1.mono (by omega))
  by_cases hc : checkC rs p = 0
  case neg =>
    have e0 : (checkC rs p != 0) = true := by simp [hc]
    have hy := openC_bad (ms := ms) hc
    obtain ⟨y0, y1, y2, y3⟩ := hbl1.four
    have z0 := hbl1.free 0
    have z1 := hbl1.free 1
    have z2 := hbl1.free 2
    have z3 := hbl1.free 3
    have Hb1 := Lib.hid hb1; clear hb1
    have Hy := Lib.hid hy; clear hy
    have Hc := Lib.hid hc; clear hc
    have Hbl1 := Lib.hid hbl1; clear hbl1
    have Hbw1 := Lib.hid hbw1; clear hbw1
    go_wp2
    (try simp only [Exit.inBlock, Exit.then])
    refine bodyPost_ret (results_row_tmp rfl _ _ _ _ _ _ rfl (Hbl1.out.set4 _ _ _ _) Tryz.underlying55 (by kernel_rfl)) rfl ?_
    exact ⟨_, _, _, _, _, _, _, _, _, _, _, _, by rw [Hy.out]; rfl, fun h0 => absurd (Hy.out.symm.trans h0) Hc.out, set4_below Hbw1.out (Nat.le_refl _) _ _ _ _⟩
  case pos =>
  have e0 : (checkC rs p != 0) = false := by simp [hc]
  have hck2 := wordCheck_calls B cb ms w1 (H'.out.later hbw1)
  have hy1 := openC_good (ms := ms) hc
  have Hb1 := Lib.hid hb1; clear hb1
  have Hc := Lib.hid hc; clear hc
  have Hbl1 := Lib.hid hbl1; clear hbl1
  have Hbw1 := Lib.hid hbw1; clear hbw1
  have Hck2 := Lib.hid hck2; clear hck2
  have Hy1 := Lib.hid hy1; clear hy1
  go_wp2_with fail
  refine Hck2.out.mono ?_
  rintro e w2 ⟨rfl, hb2⟩
  have hz2 := hb2.size
  have hbl2 := Hbl1.out.same (hb2.block _ (by omega))
  have hbw2 : Below w.heap.size w w2 := Hbw1.out.trans (hb2.mono (by omega))
  clear e0
  by_cases hc2 : checkF ms = 0
  case neg =>
    have e0 : (checkF ms != 0) = true := by simp [hc2]
    obtain ⟨y0, y1, y2, y3⟩ := hbl2.four
    have z0 := hbl2.free 0
    have z1 := hbl2.free 1
    have z2 := hbl2.free 2
    have z3 := hbl2.free 3
    have Hb2 := Lib.hid hb2; clear hb2
    have Hc2 := Lib.hid hc2; clear hc2
    have Hbl2 := Lib.hid hbl2; clear hbl2
    have Hbw2 := Lib.hid hbw2; clear hbw2
    go_wp2
    (try simp only [Exit.inBlock, Exit.then])
    refine bodyPost_ret (results_row_tmp rfl _ _ _ _ _ _ rfl (Hbl2.out.set4 _ _ _ _) Tryz.underlying55 (by kernel_rfl)) rfl ?_
    exact ⟨_, _, _, _, _, _, _, _, _, _, _, _, by rw [Hy1.out]; rfl, fun h0 => absurd (Hy1.out.symm.trans h0) Hc2.out, set4_below Hbw2.out (Nat.le_refl _) _ _ _ _⟩
  case pos =>
  have e0 : (checkF ms != 0) = false := by simp [hc2]
  have hnb := neighbours_calls B cb ms p w2 (H'.out.later hbw2) (bal_of hc2) (checkF_le hc2)
  have Hb2 := Lib.hid hb2; clear hb2
  have Hc2 := Lib.hid hc2; clear hc2
  have Hbl2 := Lib.hid hbl2; clear hbl2
  have Hbw2 := Lib.hid hbw2; clear hbw2
  have Hnb := Lib.hid hnb; clear hnb
  go_wp2_with fail
  refine Hnb.out.mono ?_
  rintro e w3 ⟨A2, c2, A3, c3, rfl, hs2, hs3, hb3⟩
  have hz3 := hb3.size
  have hbl3 := Hbl2.out.same (hb3.block _ (by omega))
  have hbw3 : Below w.heap.size w w3 := Hbw2.out.trans (hb3.mono (by omega))
  obtain ⟨y0, y1, y2, y3⟩ := hbl3.four
  have z0 := hbl3.free 0
  have z1 := hbl3.free 1
  have z2 := hbl3.free 2
  have z3 := hbl3.free 3
  have Hb3 := Lib.hid hb3; clear hb3
  have Hbl3 := Lib.hid hbl3; clear hbl3
  have Hbw3 := Lib.hid hbw3; clear hbw3
  have Hs2 := Lib.hid hs2; clear hs2
  have Hs3 := Lib.hid hs3; clear hs3
  go_wp2
  (try simp only [Exit.inBlock, Exit.then])
  refine bodyPost_ret (results_row_tmp rfl _ _ _ _ _ _ rfl (Hbl3.out.set4 _ _ _ _) Tryz.underlying55 (by kernel_rfl)) rfl ?_
  refine ⟨_, _, _, _, _, _, _, _, _, _, _, _, by rw [Hy1.out, Hc2.out]; rfl, fun _ => ⟨rfl, rfl, rfl, rfl, rfl, rfl, rfl, rfl, ?_, ?_⟩, set4_below Hbw3.out (Nat.le_refl _) _ _ _ _⟩
  · exact (Hs2.out.keep fun k hk => set4_other _ _ _ _ _ _ _ (by have := hk.1; omega)).wide fun k hk => by have := hk.2; show k < _; simpa [set4, World.setCell] using this
  · exact (Hs3.out.keep fun k hk => set4_other _ _ _ _ _ _ _ (by have := hk.1; omega)).wide fun k hk => by have := hk.2; show k < _; simpa [set4, World.setCell] using this

set_option maxRecDepth 100000 in
set_option maxHeartbeats 1000000 in
theorem cFind_calls (A : Option Addr) (c : Nat) (rs : List Rul) (B : Option Addr) (cb : Nat) (ms : List Mod) (p : ByteArray) (i : Int) (w : World) (h : SlAt pRul (Old w) w A c rs) (h' : SlAt pMod (Old w) w B cb ms) (hs : Small rs) (hi : Fits .i64 i) (hp : p.size ≤ 1000) :
    Calls Tryz.prog 11 #[.slice A rs.length c, .string p, .slice B ms.length cb, .int .i64 i] w (PairPost (cFindF rs p ms i) w) := by
  have hmx' := h'.lenle
  have hck := cOpen_calls A c rs B cb ms p w h h' hs hp
  have hi64 := hi.i64
  have H := Lib.hid h; clear h
  have H' := Lib.hid h'; clear h'
  have Hs := Lib.hid hs; clear hs
  have Hck := Lib.hid hck; clear hck
  go_enter Tryz.func11, Tryz.ntmps11
  go_wp2_with fail
  refine Hck.out.mono ?_
  rintro e w1 ⟨X0, n0, d0, X1, n1, d1, X2, n2, c2, X3, n3, c3, rfl, hop, hb1⟩
  have hz1 := hb1.size
  by_cases hc : openC rs p ms = 0
  case neg =>
    have e0 : (openC rs p ms != 0) = true := by simp [hc]
    have hy := cFindF_bad (i := i) hc
    have hb2 : Below w.heap.size w (w1.alloc (.cells #[.slice X0 n0 d0, .slice X1 n1 d1, .slice X2 n2 c2, .slice X3 n3 c3] 55)) := hb1.alloc hz1 _
    have Hb1 := Lib.hid hb1; clear hb1
    have Hy := Lib.hid hy; clear hy
    have Hc := Lib.hid hc; clear hc
    have Hop := Lib.hid hop; clear hop
    have Hb2 := Lib.hid hb2; clear hb2
    go_wp2
    go_ret2
    exact ⟨ret_pair Hy.out, Hb2.out⟩
  case pos =>
  have e0 : (openC rs p ms != 0) = false := by simp [hc]
  obtain ⟨rfl, rfl, rfl, rfl, rfl, rfl, rfl, rfl, hsl, hsr⟩ := hop hc
  obtain ⟨W2, hW2⟩ : ∃ W2, W2 = w1.alloc (.cells #[.slice X0 rs.length d0, .slice X1 ms.length d1, .slice X2 ms.length c2, .slice X3 ms.length c3] 55) := ⟨_, rfl⟩
  have hb12 : Below w1.heap.size w1 W2 := by rw [hW2]; exact (Below.refl _ _).alloc (Nat.le_refl _) _
  have hz2 : w1.heap.size + 1 ≤ W2.heap.size := by rw [hW2]; simp
  have hb2 : Below w.heap.size w W2 := hb1.trans (hb12.mono hz1)
  have hbl2 : Blk W2 w1.heap.size 55 #[.slice X0 rs.length d0, .slice X1 ms.length d1, .slice X2 ms.length c2, .slice X3 ms.length c3] := by rw [hW2]; exact Blk.new _ _ _
  obtain ⟨y0, y1, y2, y3⟩ := hbl2.four
  clear hop
  have Hb1 := Lib.hid hb1; clear hb1
  have Hb12 := Lib.hid hb12; clear hb12
  have Hb2 := Lib.hid hb2; clear hb2
  have Hbl2 := Lib.hid hbl2; clear hbl2
  have Hsl := Lib.hid hsl; clear hsl
  have Hsr := Lib.hid hsr; clear hsr
  go_upto_region 2 with fail
  rw [← hW2]
  have HW2 := Lib.hid hW2; clear hW2
  by_cases h0 : i < 0
  · have hy := cFindF_out hc (.inl h0)
    have Hy := Lib.hid hy; clear hy
    have Hc := Lib.hid hc; clear hc
    go_wp2
    go_ret2
    exact ⟨ret_pair Hy.out, Hb2.out⟩
  by_cases h1 : (ms.length : Int) ≤ i
  · have hy := cFindF_out hc (.inr h1)
    have Hy := Lib.hid hy; clear hy
    have Hc := Lib.hid hc; clear hc
    go_wp2
    go_ret2
    exact ⟨ret_pair Hy.out, Hb2.out⟩
  obtain ⟨j, rfl⟩ := Int.eq_ofNat_of_zero_le (Int.not_lt.1 h0)
  have hj : j < ms.length := by omega
  have hy := cFindF_in hc hj
  obtain ⟨hc1, hc2⟩ := openC_zero hc
  have hcf := sFind_calls X0 d0 rs X1 d1 ms X2 c2 X3 c3 p j W2 (H.out.later Hb2.out) (H'.out.later Hb2.out) (Hsl.out.later Hb12.out) (Hsr.out.later Hb12.out) (checkC_zero hc1) (fun m hm => checkF_fine hc2 m hm) hj
  have Hy := Lib.hid hy; clear hy
  have Hc := Lib.hid hc; clear hc
  have Hcf := Lib.hid hcf; clear hcf
  have Hc1 := Lib.hid hc1; clear hc1
  have Hc2 := Lib.hid hc2; clear hc2
  go_wp2_with fail
  refine Hcf.out.mono ?_
  rintro e w3 ⟨rfl, hb3⟩
  have hbw := Hb2.out.trans (hb3.mono (by omega))
  have Hbw := Lib.hid hbw; clear hbw
  clear hb3
  go_wp2
  go_ret2
  exact ⟨ret_pair Hy.out, Hbw.out⟩
end Go.Proofs.YtpeknefmjdipmaaGreatDoor
