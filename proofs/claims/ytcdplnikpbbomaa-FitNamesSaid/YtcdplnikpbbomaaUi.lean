/-
  Layer 43: the walks of func4 and refused; given, block by block.
-/
import Derived.Test.YtcdplnikpbbomaaUe
namespace Go.Proofs.Ytcdplnikpbbomaa
open Go.RowKit Go.Sort
set_option linter.unusedVariables false

theorem set_oth {w : World} {a : Addr} {v : Value} {k : Nat} (h : k ≠ a.block) : (w.setCell a v).heap[k]? = w.heap[k]? := by
  simp [World.setCell, Array.getElem?_modify, Ne.symm h]
theorem set_size {w : World} {a : Addr} {v : Value} : (w.setCell a v).heap.size = w.heap.size := by simp [World.setCell]
structure GivenAt (w : World) (g : Nat) (lo hi k1 k2 q1 q2 : Int) : Prop where
  b1 : Blk w (g + 1) 3 #[.int .i64 lo]
  b2 : Blk w (g + 2) 3 #[.int .i64 hi]
  b3 : Blk w (g + 3) 3 #[.int .i64 k1]
  b4 : Blk w (g + 4) 3 #[.int .i64 k2]
  b5 : Blk w (g + 5) 57 #[.int .i64 0, .slice (some ⟨g + 3, 0, none⟩) 1 1, .int .i64 0, .slice (some ⟨g + 4, 0, none⟩) 1 1]
  b6 : Blk w (g + 6) 3 #[.int .i64 q1, .int .i64 q2]
def fitG (lo hi k1 k2 q1 q2 : Int) : Fit := ⟨[lo], [hi], [⟨0, [k1]⟩, ⟨0, [k2]⟩], [q1, q2]⟩
theorem GivenAt.fit {w : World} {g : Nat} {lo hi k1 k2 q1 q2 : Int} (h : GivenAt w g lo hi k1 k2 q1 q2) (hf : ∀ x ∈ [lo, hi, k1, k2, q1, q2], Fits .i64 x) : FitAt (fitG lo hi k1 k2 q1 q2) (Old w) w (some ⟨g + 1, 0, none⟩) 1 (some ⟨g + 2, 0, none⟩) 1 (some ⟨g + 5, 0, none⟩) 2 (some ⟨g + 6, 0, none⟩) 2 := by
  have m1 : (1 : Nat) ≤ maxLen := by decide
  have m2 : (2 : Nat) ≤ maxLen := by decide
  have f0 : Fits .i64 0 := fits_i64 (by decide)
  refine ⟨sl_lit h.b1 (cellsAre_ints (xs := [lo]) (by intro x hx; exact hf x (by simp at hx; simp [hx]))) h.b1.lt m1 rfl, sl_lit h.b2 (cellsAre_ints (xs := [hi]) (by intro x hx; exact hf x (by simp at hx; simp [hx]))) h.b2.lt m1 rfl, sl_lit (xs := (fitG lo hi k1 k2 q1 q2).terms) h.b5 ?_ h.b5.lt m2 rfl,
    sl_lit h.b6 (cellsAre_ints (xs := [q1, q2]) (by intro x hx; exact hf x (by simp at hx; rcases hx with hx | hx <;> simp [hx]))) h.b6.lt m2 rfl⟩
  exact ⟨_, _, rfl, ⟨_, _, rfl, f0, sl_lit h.b3 (cellsAre_ints (xs := [k1]) (by intro x hx; exact hf x (by simp at hx; simp [hx]))) h.b3.lt m1 rfl⟩,
    _, _, rfl, ⟨_, _, rfl, f0, sl_lit h.b4 (cellsAre_ints (xs := [k2]) (by intro x hx; exact hf x (by simp at hx; simp [hx]))) h.b4.lt m1 rfl⟩, rfl⟩
theorem GivenAt.keep {w w' : World} {g : Nat} {lo hi k1 k2 q1 q2 : Int} (h : GivenAt w g lo hi k1 k2 q1 q2) (hk : ∀ k, g < k → k ≤ g + 6 → w'.heap[k]? = w.heap[k]?) : GivenAt w' g lo hi k1 k2 q1 q2 :=
  ⟨h.b1.same (hk _ (by omega) (by omega)), h.b2.same (hk _ (by omega) (by omega)), h.b3.same (hk _ (by omega) (by omega)), h.b4.same (hk _ (by omega) (by omega)), h.b5.same (hk _ (by omega) (by omega)), h.b6.same (hk _ (by omega) (by omega))⟩
def GivenPost2 (w : World) (e : Ending) (w' : World) : Prop :=
  Below w.heap.size w w' ∧ w'.heap.size = w.heap.size + 7 ∧ GivenAt w' w.heap.size 0 10 1 2 4 10 ∧
    e = .returned (.agg #[.slice (some ⟨w.heap.size + 1, 0, none⟩) 1 1, .slice (some ⟨w.heap.size + 2, 0, none⟩) 1 1, .slice (some ⟨w.heap.size + 5, 0, none⟩) 2 2, .slice (some ⟨w.heap.size + 6, 0, none⟩) 2 2])
set_option maxRecDepth 100000 in
set_option maxHeartbeats 4000000 in
theorem given2_calls (w : World) : Calls Try.prog 27 #[] w (GivenPost2 w) := by
  go_enter Try.func27, Try.ntmps27
  go_wp2
  refine bodyPost_ret (v := .agg #[.slice (some ⟨w.heap.size + 1, 0, none⟩) 1 1, .slice (some ⟨w.heap.size + 2, 0, none⟩) 1 1, .slice (some ⟨w.heap.size + 5, 0, none⟩) 2 2, .slice (some ⟨w.heap.size + 6, 0, none⟩) 2 2]) (by simp [results, Try.results27, go_sem]) rfl ?_
  change GivenPost2 w _ (chainW w (givenO w.heap.size))
  exact ⟨chainW_below _ _, chainW_size _ _, ⟨chainW_blk (givenO w.heap.size) w 1 _ _ rfl, chainW_blk (givenO w.heap.size) w 2 _ _ rfl, chainW_blk (givenO w.heap.size) w 3 _ _ rfl, chainW_blk (givenO w.heap.size) w 4 _ _ rfl, chainW_blk (givenO w.heap.size) w 5 _ _ rfl, chainW_blk (givenO w.heap.size) w 6 _ _ rfl⟩, rfl⟩

set_option maxRecDepth 100000 in
set_option maxHeartbeats 4000000 in
theorem refused_calls (cost : Int) (l : List Cub) (B : Option Addr) (d : Nat) (w : World) (hl : SlAt pCub (Old w) w B d l) (h : acceptF givenF cost l = (false, 0)) : Calls Try.prog 29 #[.int .i64 cost, .slice B l.length d] w (BoolPost true w) := by
  have H := Lib.hid h; clear h
  have Hl := Lib.hid hl; clear hl
  go_enter Try.func29, Try.ntmps29
  go_wp2_with fail
  refine (given_calls w).mono ?_
  rintro e w1 ⟨hb1, A1, c1, A2, c2, A3, c3, A4, c4, rfl, hf1⟩
  have z1 := hb1.size
  have hc := accept_calls givenF A1 c1 A2 c2 A3 c3 A4 c4 cost l B d w1 hf1.new (Hl.out.later hb1)
  rw [H.out] at hc
  have Hb1 := Lib.hid hb1; clear hb1
  have Hf1 := Lib.hid hf1; clear hf1
  have Hc := Lib.hid hc; clear hc
  go_wp2_with fail
  refine Hc.out.mono ?_
  rintro e w2 ⟨rfl, hb2⟩
  have hbw := Hb1.out.trans (hb2.mono z1)
  have Hbw := Lib.hid hbw; clear hbw
  clear hb2
  go_wp2
  go_ret
  exact ⟨rfl, Hbw.out⟩

def boxG (G : Nat) : Array Value := #[.slice (some ⟨G + 1, 0, none⟩) 1 1, .slice (some ⟨G + 2, 0, none⟩) 1 1, .slice (some ⟨G + 5, 0, none⟩) 2 2, .slice (some ⟨G + 6, 0, none⟩) 2 2]
theorem checks_bad : checkFit (fitG 0 10 1000001 2 4 10) = 8 ∧ checkFit (fitG 0 1000001 1 2 4 10) = 8 ∧ checkFit (fitG 0 10 1 2 4 (-1000000001)) = 8 ∧ checkFit (fitG 11 10 1 2 4 10) = 8 := by decide +kernel
set_option maxRecDepth 100000 in
set_option maxHeartbeats 8000000 in
theorem func4_calls (g0 g1 g2 g3 : Nat) (w : World) (h0 : GivenAt w g0 0 10 1 2 4 10) (h1 : GivenAt w g1 0 10 1 2 4 10) (h2 : GivenAt w g2 0 10 1 2 4 10) (h3 : GivenAt w g3 0 10 1 2 4 10) (d0 : g0 + 7 ≤ g1) (d1 : g1 + 7 ≤ g2) (d2 : g2 + 7 ≤ g3) :
    Calls Try.prog 26 #[.agg #[.slice (some ⟨g0 + 1, 0, none⟩) 1 1, .slice (some ⟨g0 + 2, 0, none⟩) 1 1, .slice (some ⟨g0 + 5, 0, none⟩) 2 2, .slice (some ⟨g0 + 6, 0, none⟩) 2 2], .agg #[.slice (some ⟨g1 + 1, 0, none⟩) 1 1, .slice (some ⟨g1 + 2, 0, none⟩) 1 1, .slice (some ⟨g1 + 5, 0, none⟩) 2 2, .slice (some ⟨g1 + 6, 0, none⟩) 2 2], .agg #[.slice (some ⟨g2 + 1, 0, none⟩) 1 1, .slice (some ⟨g2 + 2, 0, none⟩) 1 1, .slice (some ⟨g2 + 5, 0, none⟩) 2 2, .slice (some ⟨g2 + 6, 0, none⟩) 2 2], .agg #[.slice (some ⟨g3 + 1, 0, none⟩) 1 1, .slice (some ⟨g3 + 2, 0, none⟩) 1 1, .slice (some ⟨g3 + 5, 0, none⟩) 2 2, .slice (some ⟨g3 + 6, 0, none⟩) 2 2]] w fun e w' => e = .returned (.bool true) ∧ Below g0 w w' := by
  have lt0 := h0.b6.lt
  have lt1 := h1.b6.lt
  have lt2 := h2.b6.lt
  have lt3 := h3.b6.lt
  obtain ⟨W0, hW0⟩ : ∃ W0, W0 = ((((w.alloc (.cells #[.slice (some ⟨g0 + 1, 0, none⟩) 1 1, .slice (some ⟨g0 + 2, 0, none⟩) 1 1, .slice (some ⟨g0 + 5, 0, none⟩) 2 2, .slice (some ⟨g0 + 6, 0, none⟩) 2 2] 25)).alloc (.cells #[.slice (some ⟨g1 + 1, 0, none⟩) 1 1, .slice (some ⟨g1 + 2, 0, none⟩) 1 1, .slice (some ⟨g1 + 5, 0, none⟩) 2 2, .slice (some ⟨g1 + 6, 0, none⟩) 2 2] 25)).alloc (.cells #[.slice (some ⟨g2 + 1, 0, none⟩) 1 1, .slice (some ⟨g2 + 2, 0, none⟩) 1 1, .slice (some ⟨g2 + 5, 0, none⟩) 2 2, .slice (some ⟨g2 + 6, 0, none⟩) 2 2] 25)).alloc (.cells #[.slice (some ⟨g3 + 1, 0, none⟩) 1 1, .slice (some ⟨g3 + 2, 0, none⟩) 1 1, .slice (some ⟨g3 + 5, 0, none⟩) 2 2, .slice (some ⟨g3 + 6, 0, none⟩) 2 2] 25)) := ⟨_, rfl⟩
  have hc0 : W0 = chainW w [.cells #[.slice (some ⟨g0 + 1, 0, none⟩) 1 1, .slice (some ⟨g0 + 2, 0, none⟩) 1 1, .slice (some ⟨g0 + 5, 0, none⟩) 2 2, .slice (some ⟨g0 + 6, 0, none⟩) 2 2] 25, .cells #[.slice (some ⟨g1 + 1, 0, none⟩) 1 1, .slice (some ⟨g1 + 2, 0, none⟩) 1 1, .slice (some ⟨g1 + 5, 0, none⟩) 2 2, .slice (some ⟨g1 + 6, 0, none⟩) 2 2] 25, .cells #[.slice (some ⟨g2 + 1, 0, none⟩) 1 1, .slice (some ⟨g2 + 2, 0, none⟩) 1 1, .slice (some ⟨g2 + 5, 0, none⟩) 2 2, .slice (some ⟨g2 + 6, 0, none⟩) 2 2] 25, .cells #[.slice (some ⟨g3 + 1, 0, none⟩) 1 1, .slice (some ⟨g3 + 2, 0, none⟩) 1 1, .slice (some ⟨g3 + 5, 0, none⟩) 2 2, .slice (some ⟨g3 + 6, 0, none⟩) 2 2] 25] := hW0
  have hz0 : W0.heap.size = w.heap.size + 4 := by rw [hc0]; exact chainW_size _ _
  have hb0 : Below w.heap.size w W0 := by rw [hc0]; exact chainW_below _ _
  have x0 : Blk W0 (w.heap.size + 0) 25 #[.slice (some ⟨g0 + 1, 0, none⟩) 1 1, .slice (some ⟨g0 + 2, 0, none⟩) 1 1, .slice (some ⟨g0 + 5, 0, none⟩) 2 2, .slice (some ⟨g0 + 6, 0, none⟩) 2 2] := by rw [hc0]; exact chainW_blk _ w 0 _ _ rfl
  have x1 : Blk W0 (w.heap.size + 1) 25 #[.slice (some ⟨g1 + 1, 0, none⟩) 1 1, .slice (some ⟨g1 + 2, 0, none⟩) 1 1, .slice (some ⟨g1 + 5, 0, none⟩) 2 2, .slice (some ⟨g1 + 6, 0, none⟩) 2 2] := by rw [hc0]; exact chainW_blk _ w 1 _ _ rfl
  have x2 : Blk W0 (w.heap.size + 2) 25 #[.slice (some ⟨g2 + 1, 0, none⟩) 1 1, .slice (some ⟨g2 + 2, 0, none⟩) 1 1, .slice (some ⟨g2 + 5, 0, none⟩) 2 2, .slice (some ⟨g2 + 6, 0, none⟩) 2 2] := by rw [hc0]; exact chainW_blk _ w 2 _ _ rfl
  have x3 : Blk W0 (w.heap.size + 3) 25 #[.slice (some ⟨g3 + 1, 0, none⟩) 1 1, .slice (some ⟨g3 + 2, 0, none⟩) 1 1, .slice (some ⟨g3 + 5, 0, none⟩) 2 2, .slice (some ⟨g3 + 6, 0, none⟩) 2 2] := by rw [hc0]; exact chainW_blk _ w 3 _ _ rfl
  have k0 : GivenAt W0 g0 0 10 1 2 4 10 := h0.keep fun k _ hk => hb0.block k (by omega)
  have k1 : GivenAt W0 g1 0 10 1 2 4 10 := h1.keep fun k _ hk => hb0.block k (by omega)
  have k2 : GivenAt W0 g2 0 10 1 2 4 10 := h2.keep fun k _ hk => hb0.block k (by omega)
  have k3 : GivenAt W0 g3 0 10 1 2 4 10 := h3.keep fun k _ hk => hb0.block k (by omega)
  clear h0 h1 h2 h3
  obtain ⟨W1, hW1⟩ : ∃ W, W = W0.setCell ⟨g0 + 3, 0, none⟩ (.int .i64 1000001) := ⟨_, rfl⟩
  have o1 : ∀ k, k ≠ g0 + 3 → W1.heap[k]? = W0.heap[k]? := fun k hk => by rw [hW1]; exact set_oth hk
  have s1 : W1.heap.size = W0.heap.size := by rw [hW1, set_size]
  obtain ⟨W2, hW2⟩ : ∃ W, W = W1.setCell ⟨g1 + 2, 0, none⟩ (.int .i64 1000001) := ⟨_, rfl⟩
  have o2 : ∀ k, k ≠ g1 + 2 → W2.heap[k]? = W1.heap[k]? := fun k hk => by rw [hW2]; exact set_oth hk
  have s2 : W2.heap.size = W0.heap.size := by rw [hW2, set_size]; exact s1
  obtain ⟨W3, hW3⟩ : ∃ W, W = W2.setCell ⟨g2 + 6, 1, none⟩ (.int .i64 (-1000000001)) := ⟨_, rfl⟩
  have o3 : ∀ k, k ≠ g2 + 6 → W3.heap[k]? = W2.heap[k]? := fun k hk => by rw [hW3]; exact set_oth hk
  have s3 : W3.heap.size = W0.heap.size := by rw [hW3, set_size]; exact s2
  obtain ⟨W4, hW4⟩ : ∃ W, W = W3.setCell ⟨g3 + 1, 0, none⟩ (.int .i64 11) := ⟨_, rfl⟩
  have o4 : ∀ k, k ≠ g3 + 1 → W4.heap[k]? = W3.heap[k]? := fun k hk => by rw [hW4]; exact set_oth hk
  have s4 : W4.heap.size = W0.heap.size := by rw [hW4, set_size]; exact s3
  have f1 : W0.cell? ⟨w.heap.size, 2, none⟩ = some (.slice (some ⟨g0 + 5, 0, none⟩) 2 2) ∧ W0.cell? ⟨g0 + 5, 1, none⟩ = some (.slice (some ⟨g0 + 3, 0, none⟩) 1 1) ∧ W0.cell? ⟨g0 + 3, 0, none⟩ = some (.int .i64 1) ∧ W0.frozen? ⟨g0 + 3, 0, none⟩ = false := ⟨x0.cell 2, k0.b5.cell 1, k0.b3.cell 0, k0.b3.free 0⟩
  have f2 : W1.cell? ⟨w.heap.size + 1, 1, none⟩ = some (.slice (some ⟨g1 + 2, 0, none⟩) 1 1) ∧ W1.cell? ⟨g1 + 2, 0, none⟩ = some (.int .i64 10) ∧ W1.frozen? ⟨g1 + 2, 0, none⟩ = false := ⟨(x1.same ((o1 _ (by omega)))).cell 1, (k1.b2.same ((o1 _ (by omega)))).cell 0, (k1.b2.same ((o1 _ (by omega)))).free 0⟩
  have f3 : W2.cell? ⟨w.heap.size + 1 + 1, 3, none⟩ = some (.slice (some ⟨g2 + 6, 0, none⟩) 2 2) ∧ W2.cell? ⟨g2 + 6, 1, none⟩ = some (.int .i64 10) ∧ W2.frozen? ⟨g2 + 6, 1, none⟩ = false := ⟨(x2.same ((o2 _ (by omega)).trans (o1 _ (by omega)))).cell 3, (k2.b6.same ((o2 _ (by omega)).trans (o1 _ (by omega)))).cell 1, (k2.b6.same ((o2 _ (by omega)).trans (o1 _ (by omega)))).free 1⟩
  have f4 : W3.cell? ⟨w.heap.size + 1 + 1 + 1, 0, none⟩ = some (.slice (some ⟨g3 + 1, 0, none⟩) 1 1) ∧ W3.cell? ⟨g3 + 1, 0, none⟩ = some (.int .i64 0) ∧ W3.frozen? ⟨g3 + 1, 0, none⟩ = false := ⟨(x3.same (((o3 _ (by omega)).trans (o2 _ (by omega))).trans (o1 _ (by omega)))).cell 0, (k3.b1.same (((o3 _ (by omega)).trans (o2 _ (by omega))).trans (o1 _ (by omega)))).cell 0, (k3.b1.same (((o3 _ (by omega)).trans (o2 _ (by omega))).trans (o1 _ (by omega)))).free 0⟩
  have cells : ∀ W : World, Below W4.heap.size W4 W → (W.cell? ⟨w.heap.size, 0, none⟩ = some (.slice (some ⟨g0 + 1, 0, none⟩) 1 1) ∧ W.cell? ⟨w.heap.size, 1, none⟩ = some (.slice (some ⟨g0 + 2, 0, none⟩) 1 1) ∧ W.cell? ⟨w.heap.size, 2, none⟩ = some (.slice (some ⟨g0 + 5, 0, none⟩) 2 2) ∧ W.cell? ⟨w.heap.size, 3, none⟩ = some (.slice (some ⟨g0 + 6, 0, none⟩) 2 2)) ∧ (W.cell? ⟨w.heap.size + 1, 0, none⟩ = some (.slice (some ⟨g1 + 1, 0, none⟩) 1 1) ∧ W.cell? ⟨w.heap.size + 1, 1, none⟩ = some (.slice (some ⟨g1 + 2, 0, none⟩) 1 1) ∧ W.cell? ⟨w.heap.size + 1, 2, none⟩ = some (.slice (some ⟨g1 + 5, 0, none⟩) 2 2) ∧ W.cell? ⟨w.heap.size + 1, 3, none⟩ = some (.slice (some ⟨g1 + 6, 0, none⟩) 2 2)) ∧ (W.cell? ⟨w.heap.size + 1 + 1, 0, none⟩ = some (.slice (some ⟨g2 + 1, 0, none⟩) 1 1) ∧ W.cell? ⟨w.heap.size + 1 + 1, 1, none⟩ = some (.slice (some ⟨g2 + 2, 0, none⟩) 1 1) ∧ W.cell? ⟨w.heap.size + 1 + 1, 2, none⟩ = some (.slice (some ⟨g2 + 5, 0, none⟩) 2 2) ∧ W.cell? ⟨w.heap.size + 1 + 1, 3, none⟩ = some (.slice (some ⟨g2 + 6, 0, none⟩) 2 2)) ∧ (W.cell? ⟨w.heap.size + 1 + 1 + 1, 0, none⟩ = some (.slice (some ⟨g3 + 1, 0, none⟩) 1 1) ∧ W.cell? ⟨w.heap.size + 1 + 1 + 1, 1, none⟩ = some (.slice (some ⟨g3 + 2, 0, none⟩) 1 1) ∧ W.cell? ⟨w.heap.size + 1 + 1 + 1, 2, none⟩ = some (.slice (some ⟨g3 + 5, 0, none⟩) 2 2) ∧ W.cell? ⟨w.heap.size + 1 + 1 + 1, 3, none⟩ = some (.slice (some ⟨g3 + 6, 0, none⟩) 2 2)) := fun W hW => ⟨((x0.same ((((o4 _ (by omega)).trans (o3 _ (by omega))).trans (o2 _ (by omega))).trans (o1 _ (by omega)))).same (hW.block _ (by omega))).four, ((x1.same ((((o4 _ (by omega)).trans (o3 _ (by omega))).trans (o2 _ (by omega))).trans (o1 _ (by omega)))).same (hW.block _ (by omega))).four, ((x2.same ((((o4 _ (by omega)).trans (o3 _ (by omega))).trans (o2 _ (by omega))).trans (o1 _ (by omega)))).same (hW.block _ (by omega))).four, ((x3.same ((((o4 _ (by omega)).trans (o3 _ (by omega))).trans (o2 _ (by omega))).trans (o1 _ (by omega)))).same (hW.block _ (by omega))).four⟩
  have n0 : GivenAt W4 g0 0 10 1000001 2 4 10 := ⟨(k0.b1.same ((((o4 _ (by omega)).trans (o3 _ (by omega))).trans (o2 _ (by omega))).trans (o1 _ (by omega)))), (k0.b2.same ((((o4 _ (by omega)).trans (o3 _ (by omega))).trans (o2 _ (by omega))).trans (o1 _ (by omega)))), Blk.same (by have := Blk.set (k0.b3) 0 (.int .i64 1000001); rw [← hW1] at this; exact this) (((o4 _ (by omega)).trans (o3 _ (by omega))).trans (o2 _ (by omega))), (k0.b4.same ((((o4 _ (by omega)).trans (o3 _ (by omega))).trans (o2 _ (by omega))).trans (o1 _ (by omega)))), (k0.b5.same ((((o4 _ (by omega)).trans (o3 _ (by omega))).trans (o2 _ (by omega))).trans (o1 _ (by omega)))), (k0.b6.same ((((o4 _ (by omega)).trans (o3 _ (by omega))).trans (o2 _ (by omega))).trans (o1 _ (by omega))))⟩
  have n1 : GivenAt W4 g1 0 1000001 1 2 4 10 := ⟨(k1.b1.same ((((o4 _ (by omega)).trans (o3 _ (by omega))).trans (o2 _ (by omega))).trans (o1 _ (by omega)))), Blk.same (by have := Blk.set (k1.b2.same ((o1 _ (by omega)))) 0 (.int .i64 1000001); rw [← hW2] at this; exact this) ((o4 _ (by omega)).trans (o3 _ (by omega))), (k1.b3.same ((((o4 _ (by omega)).trans (o3 _ (by omega))).trans (o2 _ (by omega))).trans (o1 _ (by omega)))), (k1.b4.same ((((o4 _ (by omega)).trans (o3 _ (by omega))).trans (o2 _ (by omega))).trans (o1 _ (by omega)))), (k1.b5.same ((((o4 _ (by omega)).trans (o3 _ (by omega))).trans (o2 _ (by omega))).trans (o1 _ (by omega)))), (k1.b6.same ((((o4 _ (by omega)).trans (o3 _ (by omega))).trans (o2 _ (by omega))).trans (o1 _ (by omega))))⟩
  have n2 : GivenAt W4 g2 0 10 1 2 4 (-1000000001) := ⟨(k2.b1.same ((((o4 _ (by omega)).trans (o3 _ (by omega))).trans (o2 _ (by omega))).trans (o1 _ (by omega)))), (k2.b2.same ((((o4 _ (by omega)).trans (o3 _ (by omega))).trans (o2 _ (by omega))).trans (o1 _ (by omega)))), (k2.b3.same ((((o4 _ (by omega)).trans (o3 _ (by omega))).trans (o2 _ (by omega))).trans (o1 _ (by omega)))), (k2.b4.same ((((o4 _ (by omega)).trans (o3 _ (by omega))).trans (o2 _ (by omega))).trans (o1 _ (by omega)))), (k2.b5.same ((((o4 _ (by omega)).trans (o3 _ (by omega))).trans (o2 _ (by omega))).trans (o1 _ (by omega)))), Blk.same (by have := Blk.set (k2.b6.same ((o2 _ (by omega)).trans (o1 _ (by omega)))) 1 (.int .i64 (-1000000001)); rw [← hW3] at this; exact this) ((o4 _ (by omega)))⟩
  have n3 : GivenAt W4 g3 11 10 1 2 4 10 := ⟨(by have := Blk.set (k3.b1.same (((o3 _ (by omega)).trans (o2 _ (by omega))).trans (o1 _ (by omega)))) 0 (.int .i64 11); rw [← hW4] at this; exact this), (k3.b2.same ((((o4 _ (by omega)).trans (o3 _ (by omega))).trans (o2 _ (by omega))).trans (o1 _ (by omega)))), (k3.b3.same ((((o4 _ (by omega)).trans (o3 _ (by omega))).trans (o2 _ (by omega))).trans (o1 _ (by omega)))), (k3.b4.same ((((o4 _ (by omega)).trans (o3 _ (by omega))).trans (o2 _ (by omega))).trans (o1 _ (by omega)))), (k3.b5.same ((((o4 _ (by omega)).trans (o3 _ (by omega))).trans (o2 _ (by omega))).trans (o1 _ (by omega)))), (k3.b6.same ((((o4 _ (by omega)).trans (o3 _ (by omega))).trans (o2 _ (by omega))).trans (o1 _ (by omega))))⟩
  have ft0 := n0.fit (by intro x hx; simp at hx; rcases hx with rfl | rfl | rfl | rfl | rfl | rfl <;> exact fits_i64 (by decide))
  have ft1 := n1.fit (by intro x hx; simp at hx; rcases hx with rfl | rfl | rfl | rfl | rfl | rfl <;> exact fits_i64 (by decide))
  have ft2 := n2.fit (by intro x hx; simp at hx; rcases hx with rfl | rfl | rfl | rfl | rfl | rfl <;> exact fits_i64 (by decide))
  have ft3 := n3.fit (by intro x hx; simp at hx; rcases hx with rfl | rfl | rfl | rfl | rfl | rfl <;> exact fits_i64 (by decide))
  have hb4 : Below g0 w W4 := by
    rw [hW4, hW3, hW2, hW1]
    exact ((((hb0.mono (by omega)).setCell (by show g0 ≤ g0 + 3; omega) _).setCell (by show g0 ≤ g1 + 2; omega) _).setCell (by show g0 ≤ g2 + 6; omega) _).setCell (by show g0 ≤ g3 + 1; omega) _
  have z4 : g0 ≤ W4.heap.size := by omega
  have ck := checks_bad
  have HW0 := Lib.hid hW0; clear hW0
  have Hc0 := Lib.hid hc0; clear hc0
  have Hb0 := Lib.hid hb0; clear hb0
  have X0 := Lib.hid x0; clear x0
  have X1 := Lib.hid x1; clear x1
  have X2 := Lib.hid x2; clear x2
  have X3 := Lib.hid x3; clear x3
  have K0 := Lib.hid k0; clear k0
  have K1 := Lib.hid k1; clear k1
  have K2 := Lib.hid k2; clear k2
  have K3 := Lib.hid k3; clear k3
  have HW1 := Lib.hid hW1; clear hW1
  have HW2 := Lib.hid hW2; clear hW2
  have HW3 := Lib.hid hW3; clear hW3
  have HW4 := Lib.hid hW4; clear hW4
  have O1 := Lib.hid o1; clear o1
  have O2 := Lib.hid o2; clear o2
  have O3 := Lib.hid o3; clear o3
  have O4 := Lib.hid o4; clear o4
  have S1 := Lib.hid s1; clear s1
  have S2 := Lib.hid s2; clear s2
  have S3 := Lib.hid s3; clear s3
  have S4 := Lib.hid s4; clear s4
  have F1 := Lib.hid f1; clear f1
  have F2 := Lib.hid f2; clear f2
  have F3 := Lib.hid f3; clear f3
  have F4 := Lib.hid f4; clear f4
  have Cells := Lib.hid cells; clear cells
  have N0 := Lib.hid n0; clear n0
  have N1 := Lib.hid n1; clear n1
  have N2 := Lib.hid n2; clear n2
  have N3 := Lib.hid n3; clear n3
  have Ft0 := Lib.hid ft0; clear ft0
  have Ft1 := Lib.hid ft1; clear ft1
  have Ft2 := Lib.hid ft2; clear ft2
  have Ft3 := Lib.hid ft3; clear ft3
  have Hb4 := Lib.hid hb4; clear hb4
  have Ck := Lib.hid ck; clear ck
  have Hz0 := Lib.hid hz0; clear hz0
  go_enter Try.func26, Try.ntmps26
  go_upto_region 1 with fail
  rw [← HW0.out]
  obtain ⟨q0, q1, q2, q3⟩ := F1.out
  go_upto_region 2 with fail
  rw [← HW1.out]
  clear q0 q1 q2 q3
  obtain ⟨q0, q1, q2⟩ := F2.out
  go_upto_region 3 with fail
  rw [← HW2.out]
  clear q0 q1 q2
  obtain ⟨q0, q1, q2⟩ := F3.out
  go_upto_region 4 with fail
  rw [← HW3.out]
  clear q0 q1 q2
  obtain ⟨q0, q1, q2⟩ := F4.out
  go_upto_region 5 with fail
  rw [← HW4.out]
  clear q0 q1 q2
  have Hw4 := Lib.hid (Below.refl W4.heap.size W4)
  obtain ⟨⟨y00, y01, y02, y03⟩, ⟨y10, y11, y12, y13⟩, ⟨y20, y21, y22, y23⟩, ⟨y30, y31, y32, y33⟩⟩ := Cells.out W4 Hw4.out
  have cc := fCheck_calls (fitG 0 10 1000001 2 4 10) (some ⟨g0 + 1, 0, none⟩) 1 (some ⟨g0 + 2, 0, none⟩) 1 (some ⟨g0 + 5, 0, none⟩) 2 (some ⟨g0 + 6, 0, none⟩) 2 W4 (Ft0.out.later Hw4.out)
  rw [Ck.out.1] at cc
  have Cc := Lib.hid cc; clear cc
  go_wp2_with fail
  refine Cc.out.mono ?_
  rintro e w5 ⟨rfl, hb⟩
  have Hw5 := Lib.hid (Hw4.out.trans (hb.mono Hw4.out.size))
  clear hb Cc
  clear y00 y01 y02 y03 y10 y11 y12 y13 y20 y21 y22 y23 y30 y31 y32 y33
  obtain ⟨⟨y00, y01, y02, y03⟩, ⟨y10, y11, y12, y13⟩, ⟨y20, y21, y22, y23⟩, ⟨y30, y31, y32, y33⟩⟩ := Cells.out w5 Hw5.out
  have cc := fCheck_calls (fitG 0 1000001 1 2 4 10) (some ⟨g1 + 1, 0, none⟩) 1 (some ⟨g1 + 2, 0, none⟩) 1 (some ⟨g1 + 5, 0, none⟩) 2 (some ⟨g1 + 6, 0, none⟩) 2 w5 (Ft1.out.later Hw5.out)
  rw [Ck.out.2.1] at cc
  have Cc := Lib.hid cc; clear cc
  go_wp2_with fail
  refine Cc.out.mono ?_
  rintro e w6 ⟨rfl, hb⟩
  have Hw6 := Lib.hid (Hw5.out.trans (hb.mono Hw5.out.size))
  clear hb Cc
  clear y00 y01 y02 y03 y10 y11 y12 y13 y20 y21 y22 y23 y30 y31 y32 y33
  obtain ⟨⟨y00, y01, y02, y03⟩, ⟨y10, y11, y12, y13⟩, ⟨y20, y21, y22, y23⟩, ⟨y30, y31, y32, y33⟩⟩ := Cells.out w6 Hw6.out
  have cc := fCheck_calls (fitG 0 10 1 2 4 (-1000000001)) (some ⟨g2 + 1, 0, none⟩) 1 (some ⟨g2 + 2, 0, none⟩) 1 (some ⟨g2 + 5, 0, none⟩) 2 (some ⟨g2 + 6, 0, none⟩) 2 w6 (Ft2.out.later Hw6.out)
  rw [Ck.out.2.2.1] at cc
  have Cc := Lib.hid cc; clear cc
  go_wp2_with fail
  refine Cc.out.mono ?_
  rintro e w7 ⟨rfl, hb⟩
  have Hw7 := Lib.hid (Hw6.out.trans (hb.mono Hw6.out.size))
  clear hb Cc
  clear y00 y01 y02 y03 y10 y11 y12 y13 y20 y21 y22 y23 y30 y31 y32 y33
  obtain ⟨⟨y00, y01, y02, y03⟩, ⟨y10, y11, y12, y13⟩, ⟨y20, y21, y22, y23⟩, ⟨y30, y31, y32, y33⟩⟩ := Cells.out w7 Hw7.out
  have cc := fCheck_calls (fitG 11 10 1 2 4 10) (some ⟨g3 + 1, 0, none⟩) 1 (some ⟨g3 + 2, 0, none⟩) 1 (some ⟨g3 + 5, 0, none⟩) 2 (some ⟨g3 + 6, 0, none⟩) 2 w7 (Ft3.out.later Hw7.out)
  rw [Ck.out.2.2.2] at cc
  have Cc := Lib.hid cc; clear cc
  go_wp2_with fail
  refine Cc.out.mono ?_
  rintro e w8 ⟨rfl, hb⟩
  have Hw8 := Lib.hid (Hw7.out.trans (hb.mono Hw7.out.size))
  clear hb Cc
  clear y00 y01 y02 y03 y10 y11 y12 y13 y20 y21 y22 y23 y30 y31 y32 y33
  have hbw := Hb4.out.trans (Hw8.out.mono z4)
  have Hbw := Lib.hid hbw; clear hbw
  go_wp2
  go_ret
  exact ⟨rfl, Hbw.out⟩
end Go.Proofs.Ytcdplnikpbbomaa
