/-
  Layer 43: the walk of FitNames.
-/
import Derived.Test.YtcdplnikpbbomaaUi
import Derived.Deep.DeepCutAuto
import Derived.Deep.RegionHeld3
namespace Go.Proofs.Ytcdplnikpbbomaa
open Go.RowKit Go.Sort
set_option linter.unusedVariables false

theorem Blk.later {w w' : World} {g : Nat} {t : TypeId} {cs : Array Value} (h : Blk w g t cs) (hb : Below w.heap.size w w') : Blk w' g t cs := h.same (hb.block _ h.lt)
theorem GivenAt.later {w w' : World} {g : Nat} {lo hi k1 k2 q1 q2 : Int} (h : GivenAt w g lo hi k1 k2 q1 q2) (hb : Below w.heap.size w w') : GivenAt w' g lo hi k1 k2 q1 q2 := by
  have := h.b6.lt
  exact h.keep fun k _ hk => hb.block k (by omega)
def twoF : Fit := ⟨[-2, 0], [2, 3], [⟨1, [1, -1]⟩], [0]⟩
def flatF : Fit := ⟨[3, 3], [4, 4], [], []⟩
def noF : Fit := ⟨[], [], [], []⟩
def shortF : Fit := ⟨[0], [10], [⟨0, [1]⟩, ⟨0, [2]⟩], [4]⟩
def cu (a b : Int) : Cub := ⟨[a], [b]⟩
theorem nf1 : bestR twoF = ([-1, 0], 0) ∧ checkFit twoF = 0 ∧ bestR flatF = ([3, 3], 0) ∧ checkFit flatF = 0 ∧ proveF flatF = ([⟨[3, 3], [4, 4]⟩], 0) ∧ checkFit shortF = 8 ∧ checkFit noF = 8 ∧ checkFit (fitG 0 20000 1 2 4 10) = 4 ∧ checkFit (fitG 0 19999 1 2 4 10) = 0 := by decide +kernel
theorem nf2 : lowerF givenF [11] [11] = (0, 2) ∧ lowerF givenF [] [] = (0, 2) ∧ lowerF givenF [5] [4] = (0, 2) ∧ lowerF givenF [1] [2, 3] = (0, 2) := by decide +kernel
theorem nf3 : acceptF givenF 0 [cu 0 9] = (false, 0) ∧ acceptF givenF 0 [cu 0 10, cu 10 10] = (false, 0) ∧ acceptF givenF 0 [cu 0 11] = (false, 0) ∧ acceptF givenF 0 [] = (false, 0) ∧ acceptF givenF 0 [cu 0 5, cu 5 9] = (false, 0) ∧ acceptF givenF 1 [cu 0 10] = (false, 0) ∧ acceptF givenF 0 [cu 0 4, cu 6 10] = (false, 0) := by decide +kernel
theorem nf4 : acceptF givenF 0 [cu 7 10, cu 0 6] = (true, 0) ∧ acceptF givenF (-9223372036854775808) [cu 0 10] = (true, 0) := by decide +kernel
theorem nf5 : acceptF givenF 0 (List.replicate 2001 ⟨[], []⟩) = (false, 4) := by
  unfold acceptF; rw [if_pos given_facts.1, if_pos (by rw [List.length_replicate]; decide)]
theorem zero_cubs {w : World} {g n : Nat} {t : TypeId} {F : Nat → Prop} (h : Blk w g t (madeCells #[Value.slice none 0 0, Value.slice none 0 0] (n * 2))) (hF : F g) (hn : n ≤ maxLen) : SlAt pCub F w (some ⟨g, 0, none⟩) n (List.replicate n ⟨[], []⟩) := by
  refine ⟨by simp, hn, (fun e => by cases e), fun i x hx => ?_⟩
  obtain ⟨hi, hxe⟩ := List.getElem?_eq_some_iff.1 hx
  simp at hi hxe
  subst hxe
  refine ⟨g, 0, _, rfl, hF, ⟨none, 0, none, 0, rfl, sl_none, sl_none⟩, fun j c hj => ?_⟩
  have hj2 : j < 2 := by have := (List.getElem?_eq_some_iff.1 hj).1; simpa using this
  have hc : c = Value.slice none 0 0 := by
    match j, hj2 with
    | 0, _ => simpa using hj.symm
    | 1, _ => simpa using hj.symm
  subst hc
  rw [h.cell]
  have hm : 0 + i * pCub.n + j < n * 2 := by show 0 + i * 2 + j < n * 2; omega
  have hz : ∀ q : Nat, (#[Value.slice none 0 0, Value.slice none 0 0] : Array Value)[q % 2]! = Value.slice none 0 0 := fun q => by
    have : q % 2 = 0 ∨ q % 2 = 1 := by omega
    rcases this with h | h <;> rw [h] <;> rfl
  unfold madeCells
  rw [Array.getElem?_map, Array.getElem?_range, if_pos hm]
  exact congrArg some (hz _)
def bigC : Array Value := madeCells #[Value.slice none 0 0, Value.slice none 0 0] (2001 * 2)
theorem info_cubN : (Try.prog.info? 27).map (fun i => (i.zero, i.size, i.bytes)) = some (some (.agg #[.slice none 0 0, .slice none 0 0]), 2, 48) := by kernel_rfl
theorem make_big (wx : World) : (Instr.makeSlice 44 (.int .i64 2001) (.int .i64 2001)).run Try.prog wx = .ok (.slice (some ⟨wx.heap.size, 0, none⟩) 2001 2001) (wx.alloc (.cells bigC 27)) :=
  run_make_rowN Try.underlying44 info_cubN 2001 (by omega) (by omega) wx
theorem acc_big (A1 : Option Addr) (c1 : Nat) (A2 : Option Addr) (c2 : Nat) (A3 : Option Addr) (c3 : Nat) (A4 : Option Addr) (c4 : Nat) (W : World) (g : Nat) (h : FitAt givenF (Old W) W A1 c1 A2 c2 A3 c3 A4 c4) (hb : Blk W g 27 bigC) : Calls Try.prog 23 #[.agg #[.slice A1 givenF.lo.length c1, .slice A2 givenF.hi.length c2, .slice A3 givenF.terms.length c3, .slice A4 givenF.goals.length c4], .int .i64 0, .slice (some ⟨g, 0, none⟩) 2001 2001] W (TwoPost (.bool false) (.int .i64 4) W) := by
  have hs : SlAt pCub (Old W) W (some ⟨g, 0, none⟩) 2001 (List.replicate 2001 ⟨[], []⟩) := zero_cubs hb hb.lt (by decide)
  have hc := accept_calls givenF A1 c1 A2 c2 A3 c3 A4 c4 0 (List.replicate 2001 ⟨[], []⟩) (some ⟨g, 0, none⟩) 2001 W h hs
  rw [nf5, List.length_replicate] at hc
  exact hc
theorem tot1 {w wv wx : World} {o : Obj} (h1 : Below w.drew.heap.size w.drew wv) (h2 : Below (wv.alloc o).heap.size (wv.alloc o) wx) : Below w.heap.size w wx :=
  ((below_drew (Below.refl _ _)).trans h1).trans ((al o).trans (h2.mono (by simp)) |>.mono h1.size)
theorem tot2 {w wv wx : World} {o : Obj} (h1 : Below (w.alloc o).drew.heap.size (w.alloc o).drew wv) (h2 : Below wv.heap.size wv wx) : Below w.heap.size w wx := by
  have h0 : Below w.heap.size w (w.alloc o).drew := below_drew (al o)
  exact (h0.trans (h1.mono h0.size)).trans (h2.mono (Nat.le_trans h0.size h1.size))
theorem blk_big {w wv : World} {t : TypeId} {cs : Array Value} (h1 : Below (w.alloc (.cells cs t)).drew.heap.size (w.alloc (.cells cs t)).drew wv) : Blk wv w.heap.size t cs := (Blk.new w t cs).same (h1.block _ (by show _ < (w.alloc _).heap.size; simp))
def NamesCut (w0 : World) (s24 s25 : Value) (W : World) : Prop := s24 = .bool false ∧ s25 = .int .i64 4 ∧ Below w0.heap.size w0 W

set_option maxRecDepth 100000 in
set_option maxHeartbeats 16000000 in
theorem fitNames_walk (w : World) : Calls Try.prog 5 #[] w (OkPost w) := by
  have f1 := nf1
  have f2 := nf2
  have f3 := nf3
  have f4 := nf4
  have F1 := Lib.hid f1; clear f1
  have F2 := Lib.hid f2; clear f2
  have F3 := Lib.hid f3; clear f3
  have F4 := Lib.hid f4; clear f4
  have Hb0 := Lib.hid (Below.refl w.heap.size w)
  have z0 := Hb0.out.size
  go_enter Try.func5, Try.ntmps5
  go_wp2_with fail
  obtain ⟨w1, hw⟩ : ∃ W, W = ((((((w.alloc (.cells #[.int .i64 (-2), .int .i64 0] 3)).alloc (.cells #[.int .i64 2, .int .i64 3] 3)).alloc (.cells #[.int .i64 1, .int .i64 (-1)] 3)).alloc (.cells #[.int .i64 1, .slice (some ⟨w.heap.size + 1 + 1, 0, none⟩) 2 2] 57)).alloc (.cells #[.int .i64 0] 3)).alloc (.cells #[.slice (some ⟨w.heap.size, 0, none⟩) 2 2, .slice (some ⟨w.heap.size + 1, 0, none⟩) 2 2, .slice (some ⟨w.heap.size + 1 + 1 + 1, 0, none⟩) 1 1, .slice (some ⟨w.heap.size + 1 + 1 + 1 + 1, 0, none⟩) 1 1] 25)) := ⟨_, rfl⟩
  rw [← hw]
  have hc : w1 = chainW w [.cells #[.int .i64 (-2), .int .i64 0] 3, .cells #[.int .i64 2, .int .i64 3] 3, .cells #[.int .i64 1, .int .i64 (-1)] 3, .cells #[.int .i64 1, .slice (some ⟨w.heap.size + 1 + 1, 0, none⟩) 2 2] 57, .cells #[.int .i64 0] 3, .cells #[.slice (some ⟨w.heap.size, 0, none⟩) 2 2, .slice (some ⟨w.heap.size + 1, 0, none⟩) 2 2, .slice (some ⟨w.heap.size + 1 + 1 + 1, 0, none⟩) 1 1, .slice (some ⟨w.heap.size + 1 + 1 + 1 + 1, 0, none⟩) 1 1] 25] := hw
  have b0 := chainW_blk [.cells #[.int .i64 (-2), .int .i64 0] 3, .cells #[.int .i64 2, .int .i64 3] 3, .cells #[.int .i64 1, .int .i64 (-1)] 3, .cells #[.int .i64 1, .slice (some ⟨w.heap.size + 1 + 1, 0, none⟩) 2 2] 57, .cells #[.int .i64 0] 3, .cells #[.slice (some ⟨w.heap.size, 0, none⟩) 2 2, .slice (some ⟨w.heap.size + 1, 0, none⟩) 2 2, .slice (some ⟨w.heap.size + 1 + 1 + 1, 0, none⟩) 1 1, .slice (some ⟨w.heap.size + 1 + 1 + 1 + 1, 0, none⟩) 1 1] 25] w 0 _ _ rfl
  rw [← hc] at b0
  have b1 := chainW_blk [.cells #[.int .i64 (-2), .int .i64 0] 3, .cells #[.int .i64 2, .int .i64 3] 3, .cells #[.int .i64 1, .int .i64 (-1)] 3, .cells #[.int .i64 1, .slice (some ⟨w.heap.size + 1 + 1, 0, none⟩) 2 2] 57, .cells #[.int .i64 0] 3, .cells #[.slice (some ⟨w.heap.size, 0, none⟩) 2 2, .slice (some ⟨w.heap.size + 1, 0, none⟩) 2 2, .slice (some ⟨w.heap.size + 1 + 1 + 1, 0, none⟩) 1 1, .slice (some ⟨w.heap.size + 1 + 1 + 1 + 1, 0, none⟩) 1 1] 25] w 1 _ _ rfl
  rw [← hc] at b1
  have b2 := chainW_blk [.cells #[.int .i64 (-2), .int .i64 0] 3, .cells #[.int .i64 2, .int .i64 3] 3, .cells #[.int .i64 1, .int .i64 (-1)] 3, .cells #[.int .i64 1, .slice (some ⟨w.heap.size + 1 + 1, 0, none⟩) 2 2] 57, .cells #[.int .i64 0] 3, .cells #[.slice (some ⟨w.heap.size, 0, none⟩) 2 2, .slice (some ⟨w.heap.size + 1, 0, none⟩) 2 2, .slice (some ⟨w.heap.size + 1 + 1 + 1, 0, none⟩) 1 1, .slice (some ⟨w.heap.size + 1 + 1 + 1 + 1, 0, none⟩) 1 1] 25] w 2 _ _ rfl
  rw [← hc] at b2
  have b3 := chainW_blk [.cells #[.int .i64 (-2), .int .i64 0] 3, .cells #[.int .i64 2, .int .i64 3] 3, .cells #[.int .i64 1, .int .i64 (-1)] 3, .cells #[.int .i64 1, .slice (some ⟨w.heap.size + 1 + 1, 0, none⟩) 2 2] 57, .cells #[.int .i64 0] 3, .cells #[.slice (some ⟨w.heap.size, 0, none⟩) 2 2, .slice (some ⟨w.heap.size + 1, 0, none⟩) 2 2, .slice (some ⟨w.heap.size + 1 + 1 + 1, 0, none⟩) 1 1, .slice (some ⟨w.heap.size + 1 + 1 + 1 + 1, 0, none⟩) 1 1] 25] w 3 _ _ rfl
  rw [← hc] at b3
  have b4 := chainW_blk [.cells #[.int .i64 (-2), .int .i64 0] 3, .cells #[.int .i64 2, .int .i64 3] 3, .cells #[.int .i64 1, .int .i64 (-1)] 3, .cells #[.int .i64 1, .slice (some ⟨w.heap.size + 1 + 1, 0, none⟩) 2 2] 57, .cells #[.int .i64 0] 3, .cells #[.slice (some ⟨w.heap.size, 0, none⟩) 2 2, .slice (some ⟨w.heap.size + 1, 0, none⟩) 2 2, .slice (some ⟨w.heap.size + 1 + 1 + 1, 0, none⟩) 1 1, .slice (some ⟨w.heap.size + 1 + 1 + 1 + 1, 0, none⟩) 1 1] 25] w 4 _ _ rfl
  rw [← hc] at b4
  have b5 := chainW_blk [.cells #[.int .i64 (-2), .int .i64 0] 3, .cells #[.int .i64 2, .int .i64 3] 3, .cells #[.int .i64 1, .int .i64 (-1)] 3, .cells #[.int .i64 1, .slice (some ⟨w.heap.size + 1 + 1, 0, none⟩) 2 2] 57, .cells #[.int .i64 0] 3, .cells #[.slice (some ⟨w.heap.size, 0, none⟩) 2 2, .slice (some ⟨w.heap.size + 1, 0, none⟩) 2 2, .slice (some ⟨w.heap.size + 1 + 1 + 1, 0, none⟩) 1 1, .slice (some ⟨w.heap.size + 1 + 1 + 1 + 1, 0, none⟩) 1 1] 25] w 5 _ _ rfl
  rw [← hc] at b5
  have ft : FitAt twoF (Old w1) w1 (some ⟨w.heap.size, 0, none⟩) 2 (some ⟨w.heap.size + 1, 0, none⟩) 2 (some ⟨w.heap.size + 1 + 1 + 1, 0, none⟩) 1 (some ⟨w.heap.size + 1 + 1 + 1 + 1, 0, none⟩) 1 := by
    have m1 : (1 : Nat) ≤ maxLen := by decide
    have m2 : (2 : Nat) ≤ maxLen := by decide
    refine ⟨sl_lit b0 (ints_lit (xs := [-2, 0]) (by decide)) b0.lt m2 rfl, sl_lit b1 (ints_lit (xs := [2, 3]) (by decide)) b1.lt m2 rfl, sl_lit (xs := twoF.terms) b3 ?_ b3.lt m1 rfl, sl_lit b4 (ints_lit (xs := [0]) (by decide)) b4.lt m1 rfl⟩
    exact ⟨_, _, rfl, ⟨_, _, rfl, fits_i64 (by decide), sl_lit b2 (ints_lit (xs := [1, -1]) (by decide)) b2.lt m2 rfl⟩, rfl⟩
  have hbt : Calls Try.prog 15 #[.agg #[.slice (some ⟨w.heap.size, 0, none⟩) 2 2, .slice (some ⟨w.heap.size + 1, 0, none⟩) 2 2, .slice (some ⟨w.heap.size + 1 + 1 + 1, 0, none⟩) 1 1, .slice (some ⟨w.heap.size + 1 + 1 + 1 + 1, 0, none⟩) 1 1]] w1 (BestPost twoF w1) := best_calls twoF _ _ _ _ _ _ _ _ w1 ft
  refine hbt.mono ?_
  intro e w2 hbp
  obtain ⟨hb, Ax, cx, rfl, hx⟩ := best_uniform hbp
  rw [F1.out.1] at hx
  rw [F1.out.1, F1.out.2.1]
  have hbb0 : Below w.heap.size w w1 := by rw [hc]; exact chainW_below _ _
  have Hb1 := Lib.hid (Hb0.out.trans hbb0)
  have z1 := Hb1.out.size
  have hbb := hb
  have Hb2 := Lib.hid (Hb1.out.trans (hbb.mono z1))
  have z2 := Hb2.out.size
  have Hx := Lib.hid (show SlAt (pI .i64) (Old w2) w2 Ax cx [-1, 0] from sl_new hx)
  clear hb hx hbb hbb0 hbp hbt ft b0 b1 b2 b3 b4 b5 hc hw
  go_wp2_with fail
  obtain ⟨w3, hw⟩ : ∃ W, W = (((w2.alloc (.cells #[.int .i64 3, .int .i64 3] 3)).alloc (.cells #[.int .i64 4, .int .i64 4] 3)).alloc (.cells #[.slice (some ⟨w2.heap.size, 0, none⟩) 2 2, .slice (some ⟨w2.heap.size + 1, 0, none⟩) 2 2, .slice none 0 0, .slice none 0 0] 25)) := ⟨_, rfl⟩
  rw [← hw]
  have hc : w3 = chainW w2 [.cells #[.int .i64 3, .int .i64 3] 3, .cells #[.int .i64 4, .int .i64 4] 3, .cells #[.slice (some ⟨w2.heap.size, 0, none⟩) 2 2, .slice (some ⟨w2.heap.size + 1, 0, none⟩) 2 2, .slice none 0 0, .slice none 0 0] 25] := hw
  have b0 := chainW_blk [.cells #[.int .i64 3, .int .i64 3] 3, .cells #[.int .i64 4, .int .i64 4] 3, .cells #[.slice (some ⟨w2.heap.size, 0, none⟩) 2 2, .slice (some ⟨w2.heap.size + 1, 0, none⟩) 2 2, .slice none 0 0, .slice none 0 0] 25] w2 0 _ _ rfl
  rw [← hc] at b0
  have b1 := chainW_blk [.cells #[.int .i64 3, .int .i64 3] 3, .cells #[.int .i64 4, .int .i64 4] 3, .cells #[.slice (some ⟨w2.heap.size, 0, none⟩) 2 2, .slice (some ⟨w2.heap.size + 1, 0, none⟩) 2 2, .slice none 0 0, .slice none 0 0] 25] w2 1 _ _ rfl
  rw [← hc] at b1
  have b2 := chainW_blk [.cells #[.int .i64 3, .int .i64 3] 3, .cells #[.int .i64 4, .int .i64 4] 3, .cells #[.slice (some ⟨w2.heap.size, 0, none⟩) 2 2, .slice (some ⟨w2.heap.size + 1, 0, none⟩) 2 2, .slice none 0 0, .slice none 0 0] 25] w2 2 _ _ rfl
  rw [← hc] at b2
  have hfl : FitAt flatF (Old w3) w3 (some ⟨w2.heap.size, 0, none⟩) 2 (some ⟨w2.heap.size + 1, 0, none⟩) 2 none 0 none 0 := by
    have m2 : (2 : Nat) ≤ maxLen := by decide
    exact ⟨sl_lit b0 (ints_lit (xs := [3, 3]) (by decide)) b0.lt m2 rfl, sl_lit b1 (ints_lit (xs := [4, 4]) (by decide)) b1.lt m2 rfl, sl_none, sl_none⟩
  have hbb0 : Below w2.heap.size w2 w3 := by rw [hc]; exact chainW_below _ _
  have hbb := hbb0
  have Hb3 := Lib.hid (Hb2.out.trans (hbb.mono z2))
  have z3 := Hb3.out.size
  have Hx_ := Lib.hid (Hx.out.later hbb)
  clear Hx
  have Hx := Hx_
  clear Hx_
  have Hfl := Lib.hid hfl
  have Hbx := Lib.hid b2
  clear hbb hbb0 hfl b0 b1 b2 hc hw
  have hbt : Calls Try.prog 15 #[.agg #[.slice (some ⟨w2.heap.size, 0, none⟩) 2 2, .slice (some ⟨w2.heap.size + 1, 0, none⟩) 2 2, .slice none 0 0, .slice none 0 0]] w3 (BestPost flatF w3) := best_calls flatF _ _ _ _ _ _ _ _ w3 Hfl.out
  refine hbt.mono ?_
  intro e w4 hbp
  obtain ⟨hb, Ay, cy, rfl, hy⟩ := best_uniform hbp
  rw [F1.out.2.2.1] at hy
  rw [F1.out.2.2.1, F1.out.2.2.2.1]
  have hbb := hb
  have Hb4 := Lib.hid (Hb3.out.trans (hbb.mono z3))
  have z4 := Hb4.out.size
  have Hx_ := Lib.hid (Hx.out.later hbb)
  clear Hx
  have Hx := Hx_
  clear Hx_
  have Hfl_ := Lib.hid (Hfl.out.later hbb)
  clear Hfl
  have Hfl := Hfl_
  clear Hfl_
  have Hbx_ := Lib.hid (Hbx.out.later hbb)
  clear Hbx
  have Hbx := Hbx_
  clear Hbx_
  have Hy := Lib.hid (show SlAt (pI .i64) (Old w4) w4 Ay cy [3, 3] from sl_new hy)
  clear hb hy hbb hbp hbt
  obtain ⟨x0, x1, x2, x3⟩ := Hbx.out.four
  go_wp2_with fail
  have hbt : Calls Try.prog 21 #[.agg #[.slice (some ⟨w2.heap.size, 0, none⟩) 2 2, .slice (some ⟨w2.heap.size + 1, 0, none⟩) 2 2, .slice none 0 0, .slice none 0 0]] w4 (ProvePost flatF w4) := prove_calls flatF _ _ _ _ _ _ _ _ w4 Hfl.out
  refine hbt.mono ?_
  rintro e w5 ⟨hb, Ap, cp, rfl, hp⟩
  rw [F1.out.2.2.2.2.1]
  have hbb := hb
  have Hb5 := Lib.hid (Hb4.out.trans (hbb.mono z4))
  have z5 := Hb5.out.size
  have Hx_ := Lib.hid (Hx.out.later hbb)
  clear Hx
  have Hx := Hx_
  clear Hx_
  have Hfl_ := Lib.hid (Hfl.out.later hbb)
  clear Hfl
  have Hfl := Hfl_
  clear Hfl_
  have Hbx_ := Lib.hid (Hbx.out.later hbb)
  clear Hbx
  have Hbx := Hbx_
  clear Hbx_
  have Hy_ := Lib.hid (Hy.out.later hbb)
  clear Hy
  have Hy := Hy_
  clear Hy_
  clear hb hp hbb hbt x0 x1 x2 x3
  clear Hfl Hbx
  have Hq := Lib.hid (Below.refl w5.heap.size w5)
  go_wp2_with fail
  refine (given2_calls w5).mono ?_
  rintro e w6 ⟨hb, hz, hg, rfl⟩
  have hz0 := Nat.le_of_eq hz.symm
  clear hz
  have Hq_ := Lib.hid (Hq.out.trans (hb.mono Hq.out.size))
  clear Hq
  have Hq := Hq_
  clear Hq_
  have Hg0 := Lib.hid hg
  clear hb hg
  go_wp2_with fail
  refine (given2_calls w6).mono ?_
  rintro e w7 ⟨hb, hz, hg, rfl⟩
  have hz1 := Nat.le_of_eq hz.symm
  clear hz
  have Hq_ := Lib.hid (Hq.out.trans (hb.mono Hq.out.size))
  clear Hq
  have Hq := Hq_
  clear Hq_
  have Hg0_ := Lib.hid (Hg0.out.later hb)
  clear Hg0
  have Hg0 := Hg0_
  clear Hg0_
  have Hg1 := Lib.hid hg
  clear hb hg
  go_wp2_with fail
  refine (given2_calls w7).mono ?_
  rintro e w8 ⟨hb, hz, hg, rfl⟩
  have hz2 := Nat.le_of_eq hz.symm
  clear hz
  have Hq_ := Lib.hid (Hq.out.trans (hb.mono Hq.out.size))
  clear Hq
  have Hq := Hq_
  clear Hq_
  have Hg0_ := Lib.hid (Hg0.out.later hb)
  clear Hg0
  have Hg0 := Hg0_
  clear Hg0_
  have Hg1_ := Lib.hid (Hg1.out.later hb)
  clear Hg1
  have Hg1 := Hg1_
  clear Hg1_
  have Hg2 := Lib.hid hg
  clear hb hg
  go_wp2_with fail
  refine (given2_calls w8).mono ?_
  rintro e w9 ⟨hb, hz, hg, rfl⟩
  have hz3 := Nat.le_of_eq hz.symm
  clear hz
  have Hq_ := Lib.hid (Hq.out.trans (hb.mono Hq.out.size))
  clear Hq
  have Hq := Hq_
  clear Hq_
  have Hg0_ := Lib.hid (Hg0.out.later hb)
  clear Hg0
  have Hg0 := Hg0_
  clear Hg0_
  have Hg1_ := Lib.hid (Hg1.out.later hb)
  clear Hg1
  have Hg1 := Hg1_
  clear Hg1_
  have Hg2_ := Lib.hid (Hg2.out.later hb)
  clear Hg2
  have Hg2 := Hg2_
  clear Hg2_
  have Hg3 := Lib.hid hg
  clear hb hg
  go_wp2_with fail
  refine (func4_calls w5.heap.size w6.heap.size w7.heap.size w8.heap.size w9 Hg0.out Hg1.out Hg2.out Hg3.out (by omega) (by omega) (by omega)).mono ?_
  rintro e w10 ⟨rfl, hb⟩
  have hbb := Hq.out.trans hb
  have Hb10 := Lib.hid (Hb5.out.trans (hbb.mono z5))
  have z10 := Hb10.out.size
  have Hx_ := Lib.hid (Hx.out.later hbb)
  clear Hx
  have Hx := Hx_
  clear Hx_
  have Hy_ := Lib.hid (Hy.out.later hbb)
  clear Hy
  have Hy := Hy_
  clear Hy_
  clear hb hbb Hq Hg0 Hg1 Hg2 Hg3 hz0 hz1 hz2 hz3 
  go_wp2_with fail
  refine (given2_calls w10).mono ?_
  rintro e w11 ⟨hb, hz_, hg, rfl⟩
  have hz := Nat.le_of_eq hz_.symm
  clear hz_
  go_wp2_with fail
  obtain ⟨w12, hw⟩ : ∃ W, W = w11.alloc (.cells #[.slice (some ⟨w10.heap.size + 1, 0, none⟩) 1 1, .slice (some ⟨w10.heap.size + 2, 0, none⟩) 1 1, .slice (some ⟨w10.heap.size + 5, 0, none⟩) 2 2, .slice (some ⟨w10.heap.size + 6, 0, none⟩) 1 2] 25) := ⟨_, rfl⟩
  rw [← hw]
  have hba : Below w11.heap.size w11 w12 := by rw [hw]; exact al _
  have hbl : Blk w12 w11.heap.size 25 #[.slice (some ⟨w10.heap.size + 1, 0, none⟩) 1 1, .slice (some ⟨w10.heap.size + 2, 0, none⟩) 1 1, .slice (some ⟨w10.heap.size + 5, 0, none⟩) 2 2, .slice (some ⟨w10.heap.size + 6, 0, none⟩) 1 2] := by rw [hw]; exact Blk.new _ _ _
  have hgf := hg.fit (by intro x hx; simp at hx; rcases hx with rfl | rfl | rfl | rfl | rfl | rfl <;> exact fits_i64 (by decide))
  have hsf : FitAt shortF (Old w11) w11 _ _ _ _ _ _ _ _ := ⟨hgf.l, hgf.h, hgf.t, sl_take hgf.g 1⟩
  have hsf2 := hsf.later hba
  have hbb := hb.trans (hba.mono hb.size)
  have Hb12 := Lib.hid (Hb10.out.trans (hbb.mono z10))
  have z12 := Hb12.out.size
  have Hx_ := Lib.hid (Hx.out.later hbb)
  clear Hx
  have Hx := Hx_
  clear Hx_
  have Hy_ := Lib.hid (Hy.out.later hbb)
  clear Hy
  have Hy := Hy_
  clear Hy_
  have Hs1 := Lib.hid hsf2
  have Hs2 := Lib.hid hbl
  clear hb hbb hba hbl hgf hsf hsf2 hw hg hz
  refine (given2_calls w12).mono ?_
  rintro e w13 ⟨hb, hz_, hg, rfl⟩
  have hz := Nat.le_of_eq hz_.symm
  clear hz_
  have fa : ∀ o, (w13.alloc o).cell? ⟨w12.heap.size + 2, 0, none⟩ = some (.int .i64 10) := fun o => (hg.b2.alloc o).cell 0
  have fb : ∀ o, (w13.alloc o).frozen? ⟨w12.heap.size + 2, 0, none⟩ = false := fun o => (hg.b2.alloc o).free 0
  have hg_ := Lib.hid hg
  clear hg
  go_wp2_with fail
  obtain ⟨w14, hw⟩ : ∃ W, W = (w13.alloc (.cells #[.slice (some ⟨w12.heap.size + 1, 0, none⟩) 1 1, .slice (some ⟨w12.heap.size + 2, 0, none⟩) 1 1, .slice (some ⟨w12.heap.size + 5, 0, none⟩) 2 2, .slice (some ⟨w12.heap.size + 6, 0, none⟩) 2 2] 25)).setCell ⟨w12.heap.size + 2, 0, none⟩ (.int .i64 20000) := ⟨_, rfl⟩
  rw [← hw]
  have hg := hg_.out
  have hne : ∀ k, k ≠ w12.heap.size + 2 → k < w13.heap.size → w14.heap[k]? = w13.heap[k]? := fun k h1 h2 => by rw [hw, set_oth h1]; exact Below.heap_alloc _ _ _ h2
  have hgn : GivenAt w14 w12.heap.size 0 20000 1 2 4 10 := ⟨hg.b1.same (hne _ (by omega) (by omega)), (by have := Blk.set (hg.b2.alloc (.cells #[.slice (some ⟨w12.heap.size + 1, 0, none⟩) 1 1, .slice (some ⟨w12.heap.size + 2, 0, none⟩) 1 1, .slice (some ⟨w12.heap.size + 5, 0, none⟩) 2 2, .slice (some ⟨w12.heap.size + 6, 0, none⟩) 2 2] 25)) 0 (.int .i64 20000); rw [← hw] at this; exact this), hg.b3.same (hne _ (by omega) (by omega)), hg.b4.same (hne _ (by omega) (by omega)), hg.b5.same (hne _ (by omega) (by omega)), hg.b6.same (hne _ (by omega) (by omega))⟩
  have hbl : Blk w14 w13.heap.size 25 #[.slice (some ⟨w12.heap.size + 1, 0, none⟩) 1 1, .slice (some ⟨w12.heap.size + 2, 0, none⟩) 1 1, .slice (some ⟨w12.heap.size + 5, 0, none⟩) 2 2, .slice (some ⟨w12.heap.size + 6, 0, none⟩) 2 2] := (Blk.new w13 _ _).same (by rw [hw]; exact set_oth (by show w13.heap.size ≠ w12.heap.size + 2; omega))
  have hgf := hgn.fit (by intro x hx; simp at hx; rcases hx with rfl | rfl | rfl | rfl | rfl | rfl <;> exact fits_i64 (by decide))
  have hbb := (show Below w12.heap.size w12 w14 by rw [hw]; exact ((hb.trans ((al _).mono hb.size)).setCell (Nat.le_add_right _ 2) _))
  have Hb14 := Lib.hid (Hb12.out.trans (hbb.mono z12))
  have z14 := Hb14.out.size
  have Hx_ := Lib.hid (Hx.out.later hbb)
  clear Hx
  have Hx := Hx_
  clear Hx_
  have Hy_ := Lib.hid (Hy.out.later hbb)
  clear Hy
  have Hy := Hy_
  clear Hy_
  have Hs1_ := Lib.hid (Hs1.out.later hbb)
  clear Hs1
  have Hs1 := Hs1_
  clear Hs1_
  have Hs2_ := Lib.hid (Hs2.out.later hbb)
  clear Hs2
  have Hs2 := Hs2_
  clear Hs2_
  have Hm1 := Lib.hid hgf
  have Hm2 := Lib.hid hbl
  clear hb hbb hbl hgf hgn hne hw hg hg_ hz fa fb
  refine (given2_calls w14).mono ?_
  rintro e w15 ⟨hb, hz_, hg, rfl⟩
  have hz := Nat.le_of_eq hz_.symm
  clear hz_
  have fa : ∀ o, (w15.alloc o).cell? ⟨w14.heap.size + 2, 0, none⟩ = some (.int .i64 10) := fun o => (hg.b2.alloc o).cell 0
  have fb : ∀ o, (w15.alloc o).frozen? ⟨w14.heap.size + 2, 0, none⟩ = false := fun o => (hg.b2.alloc o).free 0
  have hg_ := Lib.hid hg
  clear hg
  go_upto_region 13 with fail
  obtain ⟨w16, hw⟩ : ∃ W, W = (w15.alloc (.cells #[.slice (some ⟨w14.heap.size + 1, 0, none⟩) 1 1, .slice (some ⟨w14.heap.size + 2, 0, none⟩) 1 1, .slice (some ⟨w14.heap.size + 5, 0, none⟩) 2 2, .slice (some ⟨w14.heap.size + 6, 0, none⟩) 2 2] 25)).setCell ⟨w14.heap.size + 2, 0, none⟩ (.int .i64 19999) := ⟨_, rfl⟩
  rw [← hw]
  have hg := hg_.out
  have hne : ∀ k, k ≠ w14.heap.size + 2 → k < w15.heap.size → w16.heap[k]? = w15.heap[k]? := fun k h1 h2 => by rw [hw, set_oth h1]; exact Below.heap_alloc _ _ _ h2
  have hgn : GivenAt w16 w14.heap.size 0 19999 1 2 4 10 := ⟨hg.b1.same (hne _ (by omega) (by omega)), (by have := Blk.set (hg.b2.alloc (.cells #[.slice (some ⟨w14.heap.size + 1, 0, none⟩) 1 1, .slice (some ⟨w14.heap.size + 2, 0, none⟩) 1 1, .slice (some ⟨w14.heap.size + 5, 0, none⟩) 2 2, .slice (some ⟨w14.heap.size + 6, 0, none⟩) 2 2] 25)) 0 (.int .i64 19999); rw [← hw] at this; exact this), hg.b3.same (hne _ (by omega) (by omega)), hg.b4.same (hne _ (by omega) (by omega)), hg.b5.same (hne _ (by omega) (by omega)), hg.b6.same (hne _ (by omega) (by omega))⟩
  have hbl : Blk w16 w15.heap.size 25 #[.slice (some ⟨w14.heap.size + 1, 0, none⟩) 1 1, .slice (some ⟨w14.heap.size + 2, 0, none⟩) 1 1, .slice (some ⟨w14.heap.size + 5, 0, none⟩) 2 2, .slice (some ⟨w14.heap.size + 6, 0, none⟩) 2 2] := (Blk.new w15 _ _).same (by rw [hw]; exact set_oth (by show w15.heap.size ≠ w14.heap.size + 2; omega))
  have hgf := hgn.fit (by intro x hx; simp at hx; rcases hx with rfl | rfl | rfl | rfl | rfl | rfl <;> exact fits_i64 (by decide))
  have hbb := (show Below w14.heap.size w14 w16 by rw [hw]; exact ((hb.trans ((al _).mono hb.size)).setCell (Nat.le_add_right _ 2) _))
  have Hb16 := Lib.hid (Hb14.out.trans (hbb.mono z14))
  have z16 := Hb16.out.size
  have Hx_ := Lib.hid (Hx.out.later hbb)
  clear Hx
  have Hx := Hx_
  clear Hx_
  have Hy_ := Lib.hid (Hy.out.later hbb)
  clear Hy
  have Hy := Hy_
  clear Hy_
  have Hs1_ := Lib.hid (Hs1.out.later hbb)
  clear Hs1
  have Hs1 := Hs1_
  clear Hs1_
  have Hs2_ := Lib.hid (Hs2.out.later hbb)
  clear Hs2
  have Hs2 := Hs2_
  clear Hs2_
  have Hm1_ := Lib.hid (Hm1.out.later hbb)
  clear Hm1
  have Hm1 := Hm1_
  clear Hm1_
  have Hm2_ := Lib.hid (Hm2.out.later hbb)
  clear Hm2
  have Hm2 := Hm2_
  clear Hm2_
  have Ht1 := Lib.hid hgf
  have Ht2 := Lib.hid hbl
  clear hb hbb hbl hgf hgn hne hw hg hg_ hz fa fb
  obtain ⟨x0, x1, x2, x3⟩ := Hs2.out.four
  have cc := fCheck_calls _ _ _ _ _ _ _ _ _ w16 Hs1.out
  rw [F1.out.2.2.2.2.2.1] at cc
  have Cc := Lib.hid cc; clear cc
  go_wp2_with fail
  refine Cc.out.mono ?_
  rintro e w17 ⟨rfl, hb⟩
  have hbb := hb
  have Hb17 := Lib.hid (Hb16.out.trans (hbb.mono z16))
  have z17 := Hb17.out.size
  have Hx_ := Lib.hid (Hx.out.later hbb)
  clear Hx
  have Hx := Hx_
  clear Hx_
  have Hy_ := Lib.hid (Hy.out.later hbb)
  clear Hy
  have Hy := Hy_
  clear Hy_
  have Hs1_ := Lib.hid (Hs1.out.later hbb)
  clear Hs1
  have Hs1 := Hs1_
  clear Hs1_
  have Hs2_ := Lib.hid (Hs2.out.later hbb)
  clear Hs2
  have Hs2 := Hs2_
  clear Hs2_
  have Hm1_ := Lib.hid (Hm1.out.later hbb)
  clear Hm1
  have Hm1 := Hm1_
  clear Hm1_
  have Hm2_ := Lib.hid (Hm2.out.later hbb)
  clear Hm2
  have Hm2 := Hm2_
  clear Hm2_
  have Ht1_ := Lib.hid (Ht1.out.later hbb)
  clear Ht1
  have Ht1 := Ht1_
  clear Ht1_
  have Ht2_ := Lib.hid (Ht2.out.later hbb)
  clear Ht2
  have Ht2 := Ht2_
  clear Ht2_
  clear hb hbb Cc x0 x1 x2 x3
  have cc := fCheck_calls noF none 0 none 0 none 0 none 0 w17 ⟨sl_none, sl_none, sl_none, sl_none⟩
  rw [F1.out.2.2.2.2.2.2.1] at cc
  have Cc := Lib.hid cc; clear cc
  go_wp2_with fail
  refine Cc.out.mono ?_
  rintro e w18 ⟨rfl, hb⟩
  have hbb := hb
  have Hb18 := Lib.hid (Hb17.out.trans (hbb.mono z17))
  have z18 := Hb18.out.size
  have Hx_ := Lib.hid (Hx.out.later hbb)
  clear Hx
  have Hx := Hx_
  clear Hx_
  have Hy_ := Lib.hid (Hy.out.later hbb)
  clear Hy
  have Hy := Hy_
  clear Hy_
  have Hs1_ := Lib.hid (Hs1.out.later hbb)
  clear Hs1
  have Hs1 := Hs1_
  clear Hs1_
  have Hs2_ := Lib.hid (Hs2.out.later hbb)
  clear Hs2
  have Hs2 := Hs2_
  clear Hs2_
  have Hm1_ := Lib.hid (Hm1.out.later hbb)
  clear Hm1
  have Hm1 := Hm1_
  clear Hm1_
  have Hm2_ := Lib.hid (Hm2.out.later hbb)
  clear Hm2
  have Hm2 := Hm2_
  clear Hm2_
  have Ht1_ := Lib.hid (Ht1.out.later hbb)
  clear Ht1
  have Ht1 := Ht1_
  clear Ht1_
  have Ht2_ := Lib.hid (Ht2.out.later hbb)
  clear Ht2
  have Ht2 := Ht2_
  clear Ht2_
  clear hb hbb Cc
  obtain ⟨x0, x1, x2, x3⟩ := Hm2.out.four
  have cc := fCheck_calls _ _ _ _ _ _ _ _ _ w18 Hm1.out
  rw [F1.out.2.2.2.2.2.2.2.1] at cc
  have Cc := Lib.hid cc; clear cc
  go_wp2_with fail
  refine Cc.out.mono ?_
  rintro e w19 ⟨rfl, hb⟩
  have hbb := hb
  have Hb19 := Lib.hid (Hb18.out.trans (hbb.mono z18))
  have z19 := Hb19.out.size
  have Hx_ := Lib.hid (Hx.out.later hbb)
  clear Hx
  have Hx := Hx_
  clear Hx_
  have Hy_ := Lib.hid (Hy.out.later hbb)
  clear Hy
  have Hy := Hy_
  clear Hy_
  have Hs1_ := Lib.hid (Hs1.out.later hbb)
  clear Hs1
  have Hs1 := Hs1_
  clear Hs1_
  have Hs2_ := Lib.hid (Hs2.out.later hbb)
  clear Hs2
  have Hs2 := Hs2_
  clear Hs2_
  have Hm1_ := Lib.hid (Hm1.out.later hbb)
  clear Hm1
  have Hm1 := Hm1_
  clear Hm1_
  have Hm2_ := Lib.hid (Hm2.out.later hbb)
  clear Hm2
  have Hm2 := Hm2_
  clear Hm2_
  have Ht1_ := Lib.hid (Ht1.out.later hbb)
  clear Ht1
  have Ht1 := Ht1_
  clear Ht1_
  have Ht2_ := Lib.hid (Ht2.out.later hbb)
  clear Ht2
  have Ht2 := Ht2_
  clear Ht2_
  clear hb hbb Cc x0 x1 x2 x3
  obtain ⟨x0, x1, x2, x3⟩ := Ht2.out.four
  have cc := fCheck_calls _ _ _ _ _ _ _ _ _ w19 Ht1.out
  rw [F1.out.2.2.2.2.2.2.2.2] at cc
  have Cc := Lib.hid cc; clear cc
  go_wp2_with fail
  refine Cc.out.mono ?_
  rintro e w20 ⟨rfl, hb⟩
  have hbb := hb
  have Hb20 := Lib.hid (Hb19.out.trans (hbb.mono z19))
  have z20 := Hb20.out.size
  have Hx_ := Lib.hid (Hx.out.later hbb)
  clear Hx
  have Hx := Hx_
  clear Hx_
  have Hy_ := Lib.hid (Hy.out.later hbb)
  clear Hy
  have Hy := Hy_
  clear Hy_
  have Hs1_ := Lib.hid (Hs1.out.later hbb)
  clear Hs1
  have Hs1 := Hs1_
  clear Hs1_
  have Hs2_ := Lib.hid (Hs2.out.later hbb)
  clear Hs2
  have Hs2 := Hs2_
  clear Hs2_
  have Hm1_ := Lib.hid (Hm1.out.later hbb)
  clear Hm1
  have Hm1 := Hm1_
  clear Hm1_
  have Hm2_ := Lib.hid (Hm2.out.later hbb)
  clear Hm2
  have Hm2 := Hm2_
  clear Hm2_
  have Ht1_ := Lib.hid (Ht1.out.later hbb)
  clear Ht1
  have Ht1 := Ht1_
  clear Ht1_
  have Ht2_ := Lib.hid (Ht2.out.later hbb)
  clear Ht2
  have Ht2 := Ht2_
  clear Ht2_
  clear hb hbb Cc x0 x1 x2 x3
  clear Hs1 Hs2 Hm1 Hm2 Ht1 Ht2
  go_wp2_with fail
  refine (given_calls w20).mono ?_
  rintro e w21 ⟨hb, A1, c1, A2, c2, A3, c3, A4, c4, rfl, hf⟩
  have hbb := hb
  have Hb21 := Lib.hid (Hb20.out.trans (hbb.mono z20))
  have z21 := Hb21.out.size
  have Hx_ := Lib.hid (Hx.out.later hbb)
  clear Hx
  have Hx := Hx_
  clear Hx_
  have Hy_ := Lib.hid (Hy.out.later hbb)
  clear Hy
  have Hy := Hy_
  clear Hy_
  have Hf := Lib.hid hf.new
  clear hb hf hbb
  have hL := Lib.hid (lit1 w21 11 (fits_i64 (by decide)))
  have hG := Lib.hid (Hf.out.later (al (.cells #[.int .i64 11] 3)))
  have cc := cost_calls givenF A1 c1 A2 c2 A3 c3 A4 c4 [11] _ _ _ hG.out hL.out
  rw [F2.out.1] at cc
  have Cc := Lib.hid cc; clear cc
  go_wp2_with fail
  refine Cc.out.mono ?_
  rintro e w22 ⟨rfl, hb⟩
  clear Hf
  have hbb := (al (.cells #[.int .i64 11] 3)).trans (hb.mono (by simp))
  have Hb22 := Lib.hid (Hb21.out.trans (hbb.mono z21))
  have z22 := Hb22.out.size
  have Hx_ := Lib.hid (Hx.out.later hbb)
  clear Hx
  have Hx := Hx_
  clear Hx_
  have Hy_ := Lib.hid (Hy.out.later hbb)
  clear Hy
  have Hy := Hy_
  clear Hy_
  clear hb hbb hL hG Cc
  go_wp2_with fail
  refine (given_calls w22).mono ?_
  rintro e w23 ⟨hb, A1, c1, A2, c2, A3, c3, A4, c4, rfl, hf⟩
  have hbb := hb
  have Hb23 := Lib.hid (Hb22.out.trans (hbb.mono z22))
  have z23 := Hb23.out.size
  have Hx_ := Lib.hid (Hx.out.later hbb)
  clear Hx
  have Hx := Hx_
  clear Hx_
  have Hy_ := Lib.hid (Hy.out.later hbb)
  clear Hy
  have Hy := Hy_
  clear Hy_
  have Hf := Lib.hid hf.new
  clear hb hf hbb
  have cc := cost_calls givenF A1 c1 A2 c2 A3 c3 A4 c4 [] none 0 w23 Hf.out sl_none
  rw [F2.out.2.1] at cc
  have Cc := Lib.hid cc; clear cc
  go_wp2_with fail
  refine Cc.out.mono ?_
  rintro e w24 ⟨rfl, hb⟩
  clear Hf
  have hbb := hb
  have Hb24 := Lib.hid (Hb23.out.trans (hbb.mono z23))
  have z24 := Hb24.out.size
  have Hx_ := Lib.hid (Hx.out.later hbb)
  clear Hx
  have Hx := Hx_
  clear Hx_
  have Hy_ := Lib.hid (Hy.out.later hbb)
  clear Hy
  have Hy := Hy_
  clear Hy_
  clear hb hbb Cc
  go_wp2_with fail
  refine (given_calls w24).mono ?_
  rintro e w25 ⟨hb, A1, c1, A2, c2, A3, c3, A4, c4, rfl, hf⟩
  have hbb := hb
  have Hb25 := Lib.hid (Hb24.out.trans (hbb.mono z24))
  have z25 := Hb25.out.size
  have Hx_ := Lib.hid (Hx.out.later hbb)
  clear Hx
  have Hx := Hx_
  clear Hx_
  have Hy_ := Lib.hid (Hy.out.later hbb)
  clear Hy
  have Hy := Hy_
  clear Hy_
  have Hf := Lib.hid hf.new
  clear hb hf hbb
  go_wp2_with fail
  refine (cube_calls 5 4 w25 (fits_i64 (by decide)) (fits_i64 (by decide))).mono ?_
  rintro e w26 ⟨hb, L0, l0, U0, u0, rfl, hl, hu⟩
  have hbb := hb
  have Hb26 := Lib.hid (Hb25.out.trans (hbb.mono z25))
  have z26 := Hb26.out.size
  have Hx_ := Lib.hid (Hx.out.later hbb)
  clear Hx
  have Hx := Hx_
  clear Hx_
  have Hy_ := Lib.hid (Hy.out.later hbb)
  clear Hy
  have Hy := Hy_
  clear Hy_
  have Hf_ := Lib.hid (Hf.out.later hbb)
  clear Hf
  have Hf := Hf_
  clear Hf_
  have Hl0 := Lib.hid (sl_new hl)
  have Hu0 := Lib.hid (sl_new hu)
  clear hb hl hu hbb
  have cc := fLower_calls givenF A1 c1 A2 c2 A3 c3 A4 c4 [5] [4] L0 l0 U0 u0 w26 Hf.out Hl0.out Hu0.out
  rw [F2.out.2.2.1] at cc
  have Cc := Lib.hid cc; clear cc
  go_wp2_with fail
  refine Cc.out.mono ?_
  rintro e w27 ⟨rfl, hb⟩
  clear Hf Hl0 Hu0
  have hbb := hb
  have Hb27 := Lib.hid (Hb26.out.trans (hbb.mono z26))
  have z27 := Hb27.out.size
  have Hx_ := Lib.hid (Hx.out.later hbb)
  clear Hx
  have Hx := Hx_
  clear Hx_
  have Hy_ := Lib.hid (Hy.out.later hbb)
  clear Hy
  have Hy := Hy_
  clear Hy_
  clear hb hbb Cc
  go_wp2_with fail
  refine (given_calls w27).mono ?_
  rintro e w28 ⟨hb, A1, c1, A2, c2, A3, c3, A4, c4, rfl, hf⟩
  have hbb := hb
  have Hb28 := Lib.hid (Hb27.out.trans (hbb.mono z27))
  have z28 := Hb28.out.size
  have Hx_ := Lib.hid (Hx.out.later hbb)
  clear Hx
  have Hx := Hx_
  clear Hx_
  have Hy_ := Lib.hid (Hy.out.later hbb)
  clear Hy
  have Hy := Hy_
  clear Hy_
  have Hf := Lib.hid hf.new
  clear hb hf hbb
  have hbb0 : Below w28.heap.size w28 (chainW w28 [.cells #[.int .i64 1] 3, .cells #[.int .i64 2, .int .i64 3] 3]) := chainW_below _ _
  have b0 := chainW_blk [.cells #[.int .i64 1] 3, .cells #[.int .i64 2, .int .i64 3] 3] w28 0 _ _ rfl
  have b1 := chainW_blk [.cells #[.int .i64 1] 3, .cells #[.int .i64 2, .int .i64 3] 3] w28 1 _ _ rfl
  have cc := fLower_calls givenF A1 c1 A2 c2 A3 c3 A4 c4 [1] [2, 3] (some ⟨w28.heap.size, 0, none⟩) 1 (some ⟨w28.heap.size + 1, 0, none⟩) 2 (chainW w28 [.cells #[.int .i64 1] 3, .cells #[.int .i64 2, .int .i64 3] 3]) (Hf.out.later hbb0) (sl_lit b0 (ints_lit (xs := [1]) (by decide)) b0.lt (by show 1 ≤ maxLen; decide) rfl) (sl_lit b1 (ints_lit (xs := [2, 3]) (by decide)) b1.lt (by show 2 ≤ maxLen; decide) rfl)
  rw [F2.out.2.2.2] at cc
  have Cc := Lib.hid cc
  have Hbb0 := Lib.hid hbb0
  clear cc b0 b1 hbb0
  go_wp2_with fail
  refine Cc.out.mono ?_
  rintro e w29 ⟨rfl, hb⟩
  clear Hf
  have hbb := Hbb0.out.trans (hb.mono Hbb0.out.size)
  have Hb29 := Lib.hid (Hb28.out.trans (hbb.mono z28))
  have z29 := Hb29.out.size
  have Hx_ := Lib.hid (Hx.out.later hbb)
  clear Hx
  have Hx := Hx_
  clear Hx_
  have Hy_ := Lib.hid (Hy.out.later hbb)
  clear Hy
  have Hy := Hy_
  clear Hy_
  clear hb hbb Cc Hbb0
  -- region 18
  have hmk : ∀ wx : World, (Instr.makeSlice 44 (.int .i64 2001) (.int .i64 2001)).run Try.prog wx = .ok (.slice (some ⟨wx.heap.size, 0, none⟩) 2001 2001) (wx.alloc (.cells bigC 27)) := make_big
  go_upto_region 18 with fail
  go_cut [24, 25] (fun s24 s25 wx => NamesCut w29 s24 s25 wx)
  case first =>
    go_region_with (first
      | (go_at_call 27; refine (given_calls _).mono ?_; rintro e wv ⟨hbv, A1, c1, A2, c2, A3, c3, A4, c4, rfl, hfv⟩)
      | (go_at_call 23; (with_reducible refine (acc_big _ _ _ _ _ _ _ _ _ _ (hfv.new.later (al _)) (Blk.new _ _ _)).mono ?_); rintro e wx ⟨rfl, hbx⟩; have htot := tot1 hbv hbx)
      | (go_at_call 23; (with_reducible refine (acc_big _ _ _ _ _ _ _ _ _ _ hfv.new (blk_big hbv)).mono ?_); rintro e wx ⟨rfl, hbx⟩; have htot := tot2 hbv hbx))
    all_goals
      go_wp2_with fail
      go_meet
      exact ⟨rfl, rfl, htot⟩
  case rest =>
  obtain ⟨rfl, rfl, hbb0⟩ := hcut
  obtain ⟨w30, rfl⟩ : ∃ W : World, W = wc := ⟨_, rfl⟩
  clear hmk
  have hbb := hbb0
  have Hb30 := Lib.hid (Hb29.out.trans (hbb.mono z29))
  have z30 := Hb30.out.size
  have Hx_ := Lib.hid (Hx.out.later hbb)
  clear Hx
  have Hx := Hx_
  clear Hx_
  have Hy_ := Lib.hid (Hy.out.later hbb)
  clear Hy
  have Hy := Hy_
  clear Hy_
  clear hbb hbb0
  go_wp2_with fail
  refine (cube_calls 0 9 w30 (fits_i64 (by decide)) (fits_i64 (by decide))).mono ?_
  rintro e w31 ⟨hb, L0, l0, U0, u0, rfl, hl, hu⟩
  have hbb := hb
  have Hb31 := Lib.hid (Hb30.out.trans (hbb.mono z30))
  have z31 := Hb31.out.size
  have Hx_ := Lib.hid (Hx.out.later hbb)
  clear Hx
  have Hx := Hx_
  clear Hx_
  have Hy_ := Lib.hid (Hy.out.later hbb)
  clear Hy
  have Hy := Hy_
  clear Hy_
  have Hl0 := Lib.hid (sl_new hl)
  have Hu0 := Lib.hid (sl_new hu)
  clear hb hl hu hbb
  have hbb0 := al (w := w31) (.cells #[.slice L0 1 l0, .slice U0 1 u0] 27)
  have hcl := Lib.hid (show SlAt pCub (Old (w31.alloc (.cells #[.slice L0 1 l0, .slice U0 1 u0] 27))) (w31.alloc (.cells #[.slice L0 1 l0, .slice U0 1 u0] 27)) (some ⟨w31.heap.size, 0, none⟩) 1 [cu 0 9] from by
    refine sl_lit (Blk.new _ _ _) ?_ (by show _ < _; simp) (by show 1 ≤ maxLen; decide) rfl
    exact ⟨_, _, rfl, ⟨L0, l0, U0, u0, rfl, Hl0.out.later hbb0, Hu0.out.later hbb0⟩, rfl⟩)
  have Hbb0 := Lib.hid hbb0
  clear hbb0
  go_wp2_with fail
  refine (refused_calls 0 [cu 0 9] (some ⟨w31.heap.size, 0, none⟩) 1 _ hcl.out F3.out.1).mono ?_
  rintro e w32 ⟨rfl, hb⟩
  clear Hl0 Hu0
  have hbb := Hbb0.out.trans (hb.mono Hbb0.out.size)
  have Hb32 := Lib.hid (Hb31.out.trans (hbb.mono z31))
  have z32 := Hb32.out.size
  have Hx_ := Lib.hid (Hx.out.later hbb)
  clear Hx
  have Hx := Hx_
  clear Hx_
  have Hy_ := Lib.hid (Hy.out.later hbb)
  clear Hy
  have Hy := Hy_
  clear Hy_
  clear hb hbb hcl Hbb0
  go_wp2_with fail
  refine (cube_calls 0 10 w32 (fits_i64 (by decide)) (fits_i64 (by decide))).mono ?_
  rintro e w33 ⟨hb, L0, l0, U0, u0, rfl, hl, hu⟩
  have hbb := hb
  have Hb33 := Lib.hid (Hb32.out.trans (hbb.mono z32))
  have z33 := Hb33.out.size
  have Hx_ := Lib.hid (Hx.out.later hbb)
  clear Hx
  have Hx := Hx_
  clear Hx_
  have Hy_ := Lib.hid (Hy.out.later hbb)
  clear Hy
  have Hy := Hy_
  clear Hy_
  have Hl0 := Lib.hid (sl_new hl)
  have Hu0 := Lib.hid (sl_new hu)
  clear hb hl hu hbb
  go_wp2_with fail
  refine (cube_calls 10 10 w33 (fits_i64 (by decide)) (fits_i64 (by decide))).mono ?_
  rintro e w34 ⟨hb, L1, l1, U1, u1, rfl, hl, hu⟩
  have hbb := hb
  have Hb34 := Lib.hid (Hb33.out.trans (hbb.mono z33))
  have z34 := Hb34.out.size
  have Hx_ := Lib.hid (Hx.out.later hbb)
  clear Hx
  have Hx := Hx_
  clear Hx_
  have Hy_ := Lib.hid (Hy.out.later hbb)
  clear Hy
  have Hy := Hy_
  clear Hy_
  have Hl0_ := Lib.hid (Hl0.out.later hbb)
  clear Hl0
  have Hl0 := Hl0_
  clear Hl0_
  have Hu0_ := Lib.hid (Hu0.out.later hbb)
  clear Hu0
  have Hu0 := Hu0_
  clear Hu0_
  have Hl1 := Lib.hid (sl_new hl)
  have Hu1 := Lib.hid (sl_new hu)
  clear hb hl hu hbb
  have hbb0 := al (w := w34) (.cells #[.slice L0 1 l0, .slice U0 1 u0, .slice L1 1 l1, .slice U1 1 u1] 27)
  have hcl := Lib.hid (show SlAt pCub (Old (w34.alloc (.cells #[.slice L0 1 l0, .slice U0 1 u0, .slice L1 1 l1, .slice U1 1 u1] 27))) (w34.alloc (.cells #[.slice L0 1 l0, .slice U0 1 u0, .slice L1 1 l1, .slice U1 1 u1] 27)) (some ⟨w34.heap.size, 0, none⟩) 2 [cu 0 10, cu 10 10] from by
    refine sl_lit (Blk.new _ _ _) ?_ (by show _ < _; simp) (by show 2 ≤ maxLen; decide) rfl
    exact ⟨_, _, rfl, ⟨L0, l0, U0, u0, rfl, Hl0.out.later hbb0, Hu0.out.later hbb0⟩, _, _, rfl, ⟨L1, l1, U1, u1, rfl, Hl1.out.later hbb0, Hu1.out.later hbb0⟩, rfl⟩)
  have Hbb0 := Lib.hid hbb0
  clear hbb0
  go_wp2_with fail
  refine (refused_calls 0 [cu 0 10, cu 10 10] (some ⟨w34.heap.size, 0, none⟩) 2 _ hcl.out F3.out.2.1).mono ?_
  rintro e w35 ⟨rfl, hb⟩
  clear Hl0 Hu0 Hl1 Hu1
  have hbb := Hbb0.out.trans (hb.mono Hbb0.out.size)
  have Hb35 := Lib.hid (Hb34.out.trans (hbb.mono z34))
  have z35 := Hb35.out.size
  have Hx_ := Lib.hid (Hx.out.later hbb)
  clear Hx
  have Hx := Hx_
  clear Hx_
  have Hy_ := Lib.hid (Hy.out.later hbb)
  clear Hy
  have Hy := Hy_
  clear Hy_
  clear hb hbb hcl Hbb0
  go_wp2_with fail
  refine (cube_calls 0 11 w35 (fits_i64 (by decide)) (fits_i64 (by decide))).mono ?_
  rintro e w36 ⟨hb, L0, l0, U0, u0, rfl, hl, hu⟩
  have hbb := hb
  have Hb36 := Lib.hid (Hb35.out.trans (hbb.mono z35))
  have z36 := Hb36.out.size
  have Hx_ := Lib.hid (Hx.out.later hbb)
  clear Hx
  have Hx := Hx_
  clear Hx_
  have Hy_ := Lib.hid (Hy.out.later hbb)
  clear Hy
  have Hy := Hy_
  clear Hy_
  have Hl0 := Lib.hid (sl_new hl)
  have Hu0 := Lib.hid (sl_new hu)
  clear hb hl hu hbb
  have hbb0 := al (w := w36) (.cells #[.slice L0 1 l0, .slice U0 1 u0] 27)
  have hcl := Lib.hid (show SlAt pCub (Old (w36.alloc (.cells #[.slice L0 1 l0, .slice U0 1 u0] 27))) (w36.alloc (.cells #[.slice L0 1 l0, .slice U0 1 u0] 27)) (some ⟨w36.heap.size, 0, none⟩) 1 [cu 0 11] from by
    refine sl_lit (Blk.new _ _ _) ?_ (by show _ < _; simp) (by show 1 ≤ maxLen; decide) rfl
    exact ⟨_, _, rfl, ⟨L0, l0, U0, u0, rfl, Hl0.out.later hbb0, Hu0.out.later hbb0⟩, rfl⟩)
  have Hbb0 := Lib.hid hbb0
  clear hbb0
  go_wp2_with fail
  refine (refused_calls 0 [cu 0 11] (some ⟨w36.heap.size, 0, none⟩) 1 _ hcl.out F3.out.2.2.1).mono ?_
  rintro e w37 ⟨rfl, hb⟩
  clear Hl0 Hu0
  have hbb := Hbb0.out.trans (hb.mono Hbb0.out.size)
  have Hb37 := Lib.hid (Hb36.out.trans (hbb.mono z36))
  have z37 := Hb37.out.size
  have Hx_ := Lib.hid (Hx.out.later hbb)
  clear Hx
  have Hx := Hx_
  clear Hx_
  have Hy_ := Lib.hid (Hy.out.later hbb)
  clear Hy
  have Hy := Hy_
  clear Hy_
  clear hb hbb hcl Hbb0
  go_wp2_with fail
  refine (refused_calls 0 [] none 0 w37 sl_none F3.out.2.2.2.1).mono ?_
  rintro e w38 ⟨rfl, hb⟩
  have hbb := hb
  have Hb38 := Lib.hid (Hb37.out.trans (hbb.mono z37))
  have z38 := Hb38.out.size
  have Hx_ := Lib.hid (Hx.out.later hbb)
  clear Hx
  have Hx := Hx_
  clear Hx_
  have Hy_ := Lib.hid (Hy.out.later hbb)
  clear Hy
  have Hy := Hy_
  clear Hy_
  clear hb hbb
  go_wp2_with fail
  refine (cube_calls 0 5 w38 (fits_i64 (by decide)) (fits_i64 (by decide))).mono ?_
  rintro e w39 ⟨hb, L0, l0, U0, u0, rfl, hl, hu⟩
  have hbb := hb
  have Hb39 := Lib.hid (Hb38.out.trans (hbb.mono z38))
  have z39 := Hb39.out.size
  have Hx_ := Lib.hid (Hx.out.later hbb)
  clear Hx
  have Hx := Hx_
  clear Hx_
  have Hy_ := Lib.hid (Hy.out.later hbb)
  clear Hy
  have Hy := Hy_
  clear Hy_
  have Hl0 := Lib.hid (sl_new hl)
  have Hu0 := Lib.hid (sl_new hu)
  clear hb hl hu hbb
  go_wp2_with fail
  refine (cube_calls 5 9 w39 (fits_i64 (by decide)) (fits_i64 (by decide))).mono ?_
  rintro e w40 ⟨hb, L1, l1, U1, u1, rfl, hl, hu⟩
  have hbb := hb
  have Hb40 := Lib.hid (Hb39.out.trans (hbb.mono z39))
  have z40 := Hb40.out.size
  have Hx_ := Lib.hid (Hx.out.later hbb)
  clear Hx
  have Hx := Hx_
  clear Hx_
  have Hy_ := Lib.hid (Hy.out.later hbb)
  clear Hy
  have Hy := Hy_
  clear Hy_
  have Hl0_ := Lib.hid (Hl0.out.later hbb)
  clear Hl0
  have Hl0 := Hl0_
  clear Hl0_
  have Hu0_ := Lib.hid (Hu0.out.later hbb)
  clear Hu0
  have Hu0 := Hu0_
  clear Hu0_
  have Hl1 := Lib.hid (sl_new hl)
  have Hu1 := Lib.hid (sl_new hu)
  clear hb hl hu hbb
  have hbb0 := al (w := w40) (.cells #[.slice L0 1 l0, .slice U0 1 u0, .slice L1 1 l1, .slice U1 1 u1] 27)
  have hcl := Lib.hid (show SlAt pCub (Old (w40.alloc (.cells #[.slice L0 1 l0, .slice U0 1 u0, .slice L1 1 l1, .slice U1 1 u1] 27))) (w40.alloc (.cells #[.slice L0 1 l0, .slice U0 1 u0, .slice L1 1 l1, .slice U1 1 u1] 27)) (some ⟨w40.heap.size, 0, none⟩) 2 [cu 0 5, cu 5 9] from by
    refine sl_lit (Blk.new _ _ _) ?_ (by show _ < _; simp) (by show 2 ≤ maxLen; decide) rfl
    exact ⟨_, _, rfl, ⟨L0, l0, U0, u0, rfl, Hl0.out.later hbb0, Hu0.out.later hbb0⟩, _, _, rfl, ⟨L1, l1, U1, u1, rfl, Hl1.out.later hbb0, Hu1.out.later hbb0⟩, rfl⟩)
  have Hbb0 := Lib.hid hbb0
  clear hbb0
  go_wp2_with fail
  refine (refused_calls 0 [cu 0 5, cu 5 9] (some ⟨w40.heap.size, 0, none⟩) 2 _ hcl.out F3.out.2.2.2.2.1).mono ?_
  rintro e w41 ⟨rfl, hb⟩
  clear Hl0 Hu0 Hl1 Hu1
  have hbb := Hbb0.out.trans (hb.mono Hbb0.out.size)
  have Hb41 := Lib.hid (Hb40.out.trans (hbb.mono z40))
  have z41 := Hb41.out.size
  have Hx_ := Lib.hid (Hx.out.later hbb)
  clear Hx
  have Hx := Hx_
  clear Hx_
  have Hy_ := Lib.hid (Hy.out.later hbb)
  clear Hy
  have Hy := Hy_
  clear Hy_
  clear hb hbb hcl Hbb0
  go_wp2_with fail
  refine (cube_calls 0 10 w41 (fits_i64 (by decide)) (fits_i64 (by decide))).mono ?_
  rintro e w42 ⟨hb, L0, l0, U0, u0, rfl, hl, hu⟩
  have hbb := hb
  have Hb42 := Lib.hid (Hb41.out.trans (hbb.mono z41))
  have z42 := Hb42.out.size
  have Hx_ := Lib.hid (Hx.out.later hbb)
  clear Hx
  have Hx := Hx_
  clear Hx_
  have Hy_ := Lib.hid (Hy.out.later hbb)
  clear Hy
  have Hy := Hy_
  clear Hy_
  have Hl0 := Lib.hid (sl_new hl)
  have Hu0 := Lib.hid (sl_new hu)
  clear hb hl hu hbb
  have hbb0 := al (w := w42) (.cells #[.slice L0 1 l0, .slice U0 1 u0] 27)
  have hcl := Lib.hid (show SlAt pCub (Old (w42.alloc (.cells #[.slice L0 1 l0, .slice U0 1 u0] 27))) (w42.alloc (.cells #[.slice L0 1 l0, .slice U0 1 u0] 27)) (some ⟨w42.heap.size, 0, none⟩) 1 [cu 0 10] from by
    refine sl_lit (Blk.new _ _ _) ?_ (by show _ < _; simp) (by show 1 ≤ maxLen; decide) rfl
    exact ⟨_, _, rfl, ⟨L0, l0, U0, u0, rfl, Hl0.out.later hbb0, Hu0.out.later hbb0⟩, rfl⟩)
  have Hbb0 := Lib.hid hbb0
  clear hbb0
  go_wp2_with fail
  refine (refused_calls 1 [cu 0 10] (some ⟨w42.heap.size, 0, none⟩) 1 _ hcl.out F3.out.2.2.2.2.2.1).mono ?_
  rintro e w43 ⟨rfl, hb⟩
  clear Hl0 Hu0
  have hbb := Hbb0.out.trans (hb.mono Hbb0.out.size)
  have Hb43 := Lib.hid (Hb42.out.trans (hbb.mono z42))
  have z43 := Hb43.out.size
  have Hx_ := Lib.hid (Hx.out.later hbb)
  clear Hx
  have Hx := Hx_
  clear Hx_
  have Hy_ := Lib.hid (Hy.out.later hbb)
  clear Hy
  have Hy := Hy_
  clear Hy_
  clear hb hbb hcl Hbb0
  go_wp2_with fail
  refine (cube_calls 0 4 w43 (fits_i64 (by decide)) (fits_i64 (by decide))).mono ?_
  rintro e w44 ⟨hb, L0, l0, U0, u0, rfl, hl, hu⟩
  have hbb := hb
  have Hb44 := Lib.hid (Hb43.out.trans (hbb.mono z43))
  have z44 := Hb44.out.size
  have Hx_ := Lib.hid (Hx.out.later hbb)
  clear Hx
  have Hx := Hx_
  clear Hx_
  have Hy_ := Lib.hid (Hy.out.later hbb)
  clear Hy
  have Hy := Hy_
  clear Hy_
  have Hl0 := Lib.hid (sl_new hl)
  have Hu0 := Lib.hid (sl_new hu)
  clear hb hl hu hbb
  go_wp2_with fail
  refine (cube_calls 6 10 w44 (fits_i64 (by decide)) (fits_i64 (by decide))).mono ?_
  rintro e w45 ⟨hb, L1, l1, U1, u1, rfl, hl, hu⟩
  have hbb := hb
  have Hb45 := Lib.hid (Hb44.out.trans (hbb.mono z44))
  have z45 := Hb45.out.size
  have Hx_ := Lib.hid (Hx.out.later hbb)
  clear Hx
  have Hx := Hx_
  clear Hx_
  have Hy_ := Lib.hid (Hy.out.later hbb)
  clear Hy
  have Hy := Hy_
  clear Hy_
  have Hl0_ := Lib.hid (Hl0.out.later hbb)
  clear Hl0
  have Hl0 := Hl0_
  clear Hl0_
  have Hu0_ := Lib.hid (Hu0.out.later hbb)
  clear Hu0
  have Hu0 := Hu0_
  clear Hu0_
  have Hl1 := Lib.hid (sl_new hl)
  have Hu1 := Lib.hid (sl_new hu)
  clear hb hl hu hbb
  have hbb0 := al (w := w45) (.cells #[.slice L0 1 l0, .slice U0 1 u0, .slice L1 1 l1, .slice U1 1 u1] 27)
  have hcl := Lib.hid (show SlAt pCub (Old (w45.alloc (.cells #[.slice L0 1 l0, .slice U0 1 u0, .slice L1 1 l1, .slice U1 1 u1] 27))) (w45.alloc (.cells #[.slice L0 1 l0, .slice U0 1 u0, .slice L1 1 l1, .slice U1 1 u1] 27)) (some ⟨w45.heap.size, 0, none⟩) 2 [cu 0 4, cu 6 10] from by
    refine sl_lit (Blk.new _ _ _) ?_ (by show _ < _; simp) (by show 2 ≤ maxLen; decide) rfl
    exact ⟨_, _, rfl, ⟨L0, l0, U0, u0, rfl, Hl0.out.later hbb0, Hu0.out.later hbb0⟩, _, _, rfl, ⟨L1, l1, U1, u1, rfl, Hl1.out.later hbb0, Hu1.out.later hbb0⟩, rfl⟩)
  have Hbb0 := Lib.hid hbb0
  clear hbb0
  go_wp2_with fail
  refine (refused_calls 0 [cu 0 4, cu 6 10] (some ⟨w45.heap.size, 0, none⟩) 2 _ hcl.out F3.out.2.2.2.2.2.2).mono ?_
  rintro e w46 ⟨rfl, hb⟩
  clear Hl0 Hu0 Hl1 Hu1
  have hbb := Hbb0.out.trans (hb.mono Hbb0.out.size)
  have Hb46 := Lib.hid (Hb45.out.trans (hbb.mono z45))
  have z46 := Hb46.out.size
  have Hx_ := Lib.hid (Hx.out.later hbb)
  clear Hx
  have Hx := Hx_
  clear Hx_
  have Hy_ := Lib.hid (Hy.out.later hbb)
  clear Hy
  have Hy := Hy_
  clear Hy_
  clear hb hbb hcl Hbb0
  go_wp2_with fail
  refine (given_calls w46).mono ?_
  rintro e w47 ⟨hb, A1, c1, A2, c2, A3, c3, A4, c4, rfl, hf⟩
  have hbb := hb
  have Hb47 := Lib.hid (Hb46.out.trans (hbb.mono z46))
  have z47 := Hb47.out.size
  have Hx_ := Lib.hid (Hx.out.later hbb)
  clear Hx
  have Hx := Hx_
  clear Hx_
  have Hy_ := Lib.hid (Hy.out.later hbb)
  clear Hy
  have Hy := Hy_
  clear Hy_
  have Hf := Lib.hid hf.new
  clear hb hf hbb
  go_wp2_with fail
  refine (cube_calls 7 10 w47 (fits_i64 (by decide)) (fits_i64 (by decide))).mono ?_
  rintro e w48 ⟨hb, L0, l0, U0, u0, rfl, hl, hu⟩
  have hbb := hb
  have Hb48 := Lib.hid (Hb47.out.trans (hbb.mono z47))
  have z48 := Hb48.out.size
  have Hx_ := Lib.hid (Hx.out.later hbb)
  clear Hx
  have Hx := Hx_
  clear Hx_
  have Hy_ := Lib.hid (Hy.out.later hbb)
  clear Hy
  have Hy := Hy_
  clear Hy_
  have Hf_ := Lib.hid (Hf.out.later hbb)
  clear Hf
  have Hf := Hf_
  clear Hf_
  have Hl0 := Lib.hid (sl_new hl)
  have Hu0 := Lib.hid (sl_new hu)
  clear hb hl hu hbb
  go_wp2_with fail
  refine (cube_calls 0 6 w48 (fits_i64 (by decide)) (fits_i64 (by decide))).mono ?_
  rintro e w49 ⟨hb, L1, l1, U1, u1, rfl, hl, hu⟩
  have hbb := hb
  have Hb49 := Lib.hid (Hb48.out.trans (hbb.mono z48))
  have z49 := Hb49.out.size
  have Hx_ := Lib.hid (Hx.out.later hbb)
  clear Hx
  have Hx := Hx_
  clear Hx_
  have Hy_ := Lib.hid (Hy.out.later hbb)
  clear Hy
  have Hy := Hy_
  clear Hy_
  have Hf_ := Lib.hid (Hf.out.later hbb)
  clear Hf
  have Hf := Hf_
  clear Hf_
  have Hl0_ := Lib.hid (Hl0.out.later hbb)
  clear Hl0
  have Hl0 := Hl0_
  clear Hl0_
  have Hu0_ := Lib.hid (Hu0.out.later hbb)
  clear Hu0
  have Hu0 := Hu0_
  clear Hu0_
  have Hl1 := Lib.hid (sl_new hl)
  have Hu1 := Lib.hid (sl_new hu)
  clear hb hl hu hbb
  have hbb0 := al (w := w49) (.cells #[.slice L0 1 l0, .slice U0 1 u0, .slice L1 1 l1, .slice U1 1 u1] 27)
  have hcl := Lib.hid (show SlAt pCub (Old (w49.alloc (.cells #[.slice L0 1 l0, .slice U0 1 u0, .slice L1 1 l1, .slice U1 1 u1] 27))) (w49.alloc (.cells #[.slice L0 1 l0, .slice U0 1 u0, .slice L1 1 l1, .slice U1 1 u1] 27)) (some ⟨w49.heap.size, 0, none⟩) 2 [cu 7 10, cu 0 6] from by
    refine sl_lit (Blk.new _ _ _) ?_ (by show _ < _; simp) (by show 2 ≤ maxLen; decide) rfl
    exact ⟨_, _, rfl, ⟨L0, l0, U0, u0, rfl, Hl0.out.later hbb0, Hu0.out.later hbb0⟩, _, _, rfl, ⟨L1, l1, U1, u1, rfl, Hl1.out.later hbb0, Hu1.out.later hbb0⟩, rfl⟩)
  have Hbb0 := Lib.hid hbb0
  clear hbb0
  have cc := accept_calls givenF A1 c1 A2 c2 A3 c3 A4 c4 (0) [cu 7 10, cu 0 6] (some ⟨w49.heap.size, 0, none⟩) 2 _ (Hf.out.later Hbb0.out) hcl.out
  rw [F4.out.1] at cc
  have Cc := Lib.hid cc; clear cc
  go_wp2_with fail
  refine Cc.out.mono ?_
  rintro e w50 ⟨rfl, hb⟩
  clear Hf Hl0 Hu0 Hl1 Hu1
  have hbb := Hbb0.out.trans (hb.mono Hbb0.out.size)
  have Hb50 := Lib.hid (Hb49.out.trans (hbb.mono z49))
  have z50 := Hb50.out.size
  have Hx_ := Lib.hid (Hx.out.later hbb)
  clear Hx
  have Hx := Hx_
  clear Hx_
  have Hy_ := Lib.hid (Hy.out.later hbb)
  clear Hy
  have Hy := Hy_
  clear Hy_
  clear hb hbb hcl Hbb0 Cc
  go_wp2_with fail
  refine (given_calls w50).mono ?_
  rintro e w51 ⟨hb, A1, c1, A2, c2, A3, c3, A4, c4, rfl, hf⟩
  have hbb := hb
  have Hb51 := Lib.hid (Hb50.out.trans (hbb.mono z50))
  have z51 := Hb51.out.size
  have Hx_ := Lib.hid (Hx.out.later hbb)
  clear Hx
  have Hx := Hx_
  clear Hx_
  have Hy_ := Lib.hid (Hy.out.later hbb)
  clear Hy
  have Hy := Hy_
  clear Hy_
  have Hf := Lib.hid hf.new
  clear hb hf hbb
  go_wp2_with fail
  refine (cube_calls 0 10 w51 (fits_i64 (by decide)) (fits_i64 (by decide))).mono ?_
  rintro e w52 ⟨hb, L0, l0, U0, u0, rfl, hl, hu⟩
  have hbb := hb
  have Hb52 := Lib.hid (Hb51.out.trans (hbb.mono z51))
  have z52 := Hb52.out.size
  have Hx_ := Lib.hid (Hx.out.later hbb)
  clear Hx
  have Hx := Hx_
  clear Hx_
  have Hy_ := Lib.hid (Hy.out.later hbb)
  clear Hy
  have Hy := Hy_
  clear Hy_
  have Hf_ := Lib.hid (Hf.out.later hbb)
  clear Hf
  have Hf := Hf_
  clear Hf_
  have Hl0 := Lib.hid (sl_new hl)
  have Hu0 := Lib.hid (sl_new hu)
  clear hb hl hu hbb
  have hbb0 := al (w := w52) (.cells #[.slice L0 1 l0, .slice U0 1 u0] 27)
  have hcl := Lib.hid (show SlAt pCub (Old (w52.alloc (.cells #[.slice L0 1 l0, .slice U0 1 u0] 27))) (w52.alloc (.cells #[.slice L0 1 l0, .slice U0 1 u0] 27)) (some ⟨w52.heap.size, 0, none⟩) 1 [cu 0 10] from by
    refine sl_lit (Blk.new _ _ _) ?_ (by show _ < _; simp) (by show 1 ≤ maxLen; decide) rfl
    exact ⟨_, _, rfl, ⟨L0, l0, U0, u0, rfl, Hl0.out.later hbb0, Hu0.out.later hbb0⟩, rfl⟩)
  have Hbb0 := Lib.hid hbb0
  clear hbb0
  have cc := accept_calls givenF A1 c1 A2 c2 A3 c3 A4 c4 (-9223372036854775808) [cu 0 10] (some ⟨w52.heap.size, 0, none⟩) 1 _ (Hf.out.later Hbb0.out) hcl.out
  rw [F4.out.2] at cc
  have Cc := Lib.hid cc; clear cc
  go_wp2_with fail
  refine Cc.out.mono ?_
  rintro e w53 ⟨rfl, hb⟩
  clear Hf Hl0 Hu0
  have hbb := Hbb0.out.trans (hb.mono Hbb0.out.size)
  have Hb53 := Lib.hid (Hb52.out.trans (hbb.mono z52))
  have z53 := Hb53.out.size
  have Hx_ := Lib.hid (Hx.out.later hbb)
  clear Hx
  have Hx := Hx_
  clear Hx_
  have Hy_ := Lib.hid (Hy.out.later hbb)
  clear Hy
  have Hy := Hy_
  clear Hy_
  clear hb hbb hcl Hbb0 Cc
  have hL := Lib.hid (show SlAt (pI .i64) (Old (w53.alloc (.cells #[.int .i64 (-1), .int .i64 0] 3))) (w53.alloc (.cells #[.int .i64 (-1), .int .i64 0] 3)) (some ⟨w53.heap.size, 0, none⟩) 2 [-1, 0] from sl_lit (Blk.new _ _ _) (ints_lit (xs := [-1, 0]) (by decide)) (by show _ < _; simp) (by show 2 ≤ maxLen; decide) rfl)
  have hX := Lib.hid (Hx.out.later (al (.cells #[.int .i64 (-1), .int .i64 0] 3)))
  go_wp2_with fail
  refine (sameInts_calls Ax (some ⟨w53.heap.size, 0, none⟩) cx 2 [-1, 0] [-1, 0] _ hX.out hL.out).mono ?_
  rintro e w54 ⟨rfl, q, hq⟩
  have hbb := (show Below w53.heap.size w53 w54 by rw [hq]; exact below_drewN (al _) _)
  have Hb54 := Lib.hid (Hb53.out.trans (hbb.mono z53))
  have z54 := Hb54.out.size
  have Hx_ := Lib.hid (Hx.out.later hbb)
  clear Hx
  have Hx := Hx_
  clear Hx_
  have Hy_ := Lib.hid (Hy.out.later hbb)
  clear Hy
  have Hy := Hy_
  clear Hy_
  clear hq hbb hL hX
  have hsm : ((([-1, 0] : List Int) == [-1, 0]) = true) := by decide
  rw [hsm]
  clear hsm
  have hL := Lib.hid (show SlAt (pI .i64) (Old (w54.alloc (.cells #[.int .i64 3, .int .i64 3] 3))) (w54.alloc (.cells #[.int .i64 3, .int .i64 3] 3)) (some ⟨w54.heap.size, 0, none⟩) 2 [3, 3] from sl_lit (Blk.new _ _ _) (ints_lit (xs := [3, 3]) (by decide)) (by show _ < _; simp) (by show 2 ≤ maxLen; decide) rfl)
  have hX := Lib.hid (Hy.out.later (al (.cells #[.int .i64 3, .int .i64 3] 3)))
  go_wp2_with fail
  refine (sameInts_calls Ay (some ⟨w54.heap.size, 0, none⟩) cy 2 [3, 3] [3, 3] _ hX.out hL.out).mono ?_
  rintro e w55 ⟨rfl, q, hq⟩
  have hbb := (show Below w54.heap.size w54 w55 by rw [hq]; exact below_drewN (al _) _)
  have Hb55 := Lib.hid (Hb54.out.trans (hbb.mono z54))
  have z55 := Hb55.out.size
  have Hx_ := Lib.hid (Hx.out.later hbb)
  clear Hx
  have Hx := Hx_
  clear Hx_
  have Hy_ := Lib.hid (Hy.out.later hbb)
  clear Hy
  have Hy := Hy_
  clear Hy_
  clear hq hbb hL hX
  have hsm : ((([3, 3] : List Int) == [3, 3]) = true) := by decide
  rw [hsm]
  clear hsm
  go_wp2_with fail
  refine (alive_calls w55).mono ?_
  rintro e w56 ⟨rfl, hb⟩
  have hbb := hb
  have Hb56 := Lib.hid (Hb55.out.trans (hbb.mono z55))
  have z56 := Hb56.out.size
  have Hx_ := Lib.hid (Hx.out.later hbb)
  clear Hx
  have Hx := Hx_
  clear Hx_
  have Hy_ := Lib.hid (Hy.out.later hbb)
  clear Hy
  have Hy := Hy_
  clear Hy_
  clear hb hbb
  go_wp2
  go_ret
  exact ⟨rfl, Hb56.out⟩
end Go.Proofs.Ytcdplnikpbbomaa
