/-
  Layer 43: the walks of the statements' own helpers: given, cube, costs.
-/
import Derived.Test.YtcdplnikpbbomaaZo
import Derived.Test.YtcdplnikpbbomaaZm
import Derived.Test.YtcdplnikpbbomaaLi
namespace Go.Proofs.Ytcdplnikpbbomaa
open Go.RowKit Go.Sort

def givenF : Fit := ⟨[0], [10], [⟨0, [1]⟩, ⟨0, [2]⟩], [4, 10]⟩
def givenO (n : Nat) : List Obj := [.cells #[.slice (some ⟨n + 1, 0, none⟩) 1 1, .slice (some ⟨n + 2, 0, none⟩) 1 1, .slice (some ⟨n + 5, 0, none⟩) 2 2, .slice (some ⟨n + 6, 0, none⟩) 2 2] 25, .cells #[.int .i64 0] 3, .cells #[.int .i64 10] 3, .cells #[.int .i64 1] 3, .cells #[.int .i64 2] 3,
  .cells #[.int .i64 0, .slice (some ⟨n + 3, 0, none⟩) 1 1, .int .i64 0, .slice (some ⟨n + 4, 0, none⟩) 1 1] 57, .cells #[.int .i64 4, .int .i64 10] 3]
def GivenPost (w : World) (e : Ending) (w' : World) : Prop :=
  Below w.heap.size w w' ∧ ∃ A1 c1 A2 c2 A3 c3 A4 c4, e = .returned (.agg #[.slice A1 givenF.lo.length c1, .slice A2 givenF.hi.length c2, .slice A3 givenF.terms.length c3, .slice A4 givenF.goals.length c4]) ∧ FitAt givenF (fun k => w.heap.size ≤ k ∧ k < w'.heap.size) w' A1 c1 A2 c2 A3 c3 A4 c4
set_option maxRecDepth 100000 in
set_option maxHeartbeats 4000000 in
theorem given_calls (w : World) : Calls Try.prog 27 #[] w (GivenPost w) := by
  go_enter Try.func27, Try.ntmps27
  go_wp2
  refine bodyPost_ret (v := .agg #[.slice (some ⟨w.heap.size + 1, 0, none⟩) 1 1, .slice (some ⟨w.heap.size + 1 + 1, 0, none⟩) 1 1, .slice (some ⟨w.heap.size + 1 + 1 + 1 + 1 + 1, 0, none⟩) 2 2, .slice (some ⟨w.heap.size + 1 + 1 + 1 + 1 + 1 + 1, 0, none⟩) 2 2]) (by simp [results, Try.results27, go_sem]) rfl ⟨?_, _, _, _, _, _, _, _, _, rfl, ?_⟩
  · change Below w.heap.size w (chainW w (givenO w.heap.size))
    exact chainW_below _ _
  · change FitAt givenF (fun k => w.heap.size ≤ k ∧ k < (chainW w (givenO w.heap.size)).heap.size) (chainW w (givenO w.heap.size)) _ _ _ _ _ _ _ _
    have hz : (chainW w (givenO w.heap.size)).heap.size = w.heap.size + 7 := chainW_size _ _
    have b1 := chainW_blk (givenO w.heap.size) w 1 _ _ rfl
    have b2 := chainW_blk (givenO w.heap.size) w 2 _ _ rfl
    have b3 := chainW_blk (givenO w.heap.size) w 3 _ _ rfl
    have b4 := chainW_blk (givenO w.heap.size) w 4 _ _ rfl
    have b5 := chainW_blk (givenO w.heap.size) w 5 _ _ rfl
    have b6 := chainW_blk (givenO w.heap.size) w 6 _ _ rfl
    refine ⟨sl_lit b1 (ints_lit (xs := [0]) (by decide)) ⟨by omega, by omega⟩ (by decide) rfl, sl_lit b2 (ints_lit (xs := [10]) (by decide)) ⟨by omega, by omega⟩ (by decide) rfl, sl_lit b5 ?_ ⟨by omega, by omega⟩ (by decide) rfl, sl_lit b6 (ints_lit (xs := [4, 10]) (by decide)) ⟨by omega, by omega⟩ (by decide) rfl⟩
    exact ⟨_, _, rfl, ⟨_, _, rfl, fits_i64 (by decide), sl_lit b3 (ints_lit (xs := [1]) (by decide)) ⟨by omega, by omega⟩ (by decide) rfl⟩, _, _, rfl, ⟨_, _, rfl, fits_i64 (by decide), sl_lit b4 (ints_lit (xs := [2]) (by decide)) ⟨by omega, by omega⟩ (by decide) rfl⟩, rfl⟩
def cubeO (n : Nat) (a b : Int) : List Obj := [.cells #[.slice (some ⟨n + 1, 0, none⟩) 1 1, .slice (some ⟨n + 2, 0, none⟩) 1 1] 27, .cells #[.int .i64 a] 3, .cells #[.int .i64 b] 3]
def CubePost (a b : Int) (w : World) (e : Ending) (w' : World) : Prop :=
  Below w.heap.size w w' ∧ ∃ B1 d1 B2 d2, e = .returned (.agg #[.slice B1 1 d1, .slice B2 1 d2]) ∧ SlAt (pI .i64) (fun k => w.heap.size ≤ k ∧ k < w'.heap.size) w' B1 d1 [a] ∧ SlAt (pI .i64) (fun k => w.heap.size ≤ k ∧ k < w'.heap.size) w' B2 d2 [b]
set_option maxRecDepth 100000 in
set_option maxHeartbeats 4000000 in
theorem cube_calls (a b : Int) (w : World) (ha : Fits .i64 a) (hb : Fits .i64 b) : Calls Try.prog 28 #[.int .i64 a, .int .i64 b] w (CubePost a b w) := by
  go_enter Try.func28, Try.ntmps28
  go_wp2
  refine bodyPost_ret (v := .agg #[.slice (some ⟨w.heap.size + 1, 0, none⟩) 1 1, .slice (some ⟨w.heap.size + 1 + 1, 0, none⟩) 1 1]) (by simp [results, Try.results28, go_sem]) rfl ⟨?_, _, _, _, _, rfl, ?_⟩
  · change Below w.heap.size w (chainW w (cubeO w.heap.size a b))
    exact chainW_below _ _
  · change SlAt (pI .i64) (fun k => w.heap.size ≤ k ∧ k < (chainW w (cubeO w.heap.size a b)).heap.size) (chainW w (cubeO w.heap.size a b)) _ _ [a] ∧ SlAt (pI .i64) (fun k => w.heap.size ≤ k ∧ k < (chainW w (cubeO w.heap.size a b)).heap.size) (chainW w (cubeO w.heap.size a b)) _ _ [b]
    have hz : (chainW w (cubeO w.heap.size a b)).heap.size = w.heap.size + 3 := chainW_size _ _
    have b1 := chainW_blk (cubeO w.heap.size a b) w 1 _ _ rfl
    have b2 := chainW_blk (cubeO w.heap.size a b) w 2 _ _ rfl
    have m1 : (1 : Nat) ≤ maxLen := by decide
    exact ⟨sl_lit b1 (cellsAre_ints (xs := [a]) (by simpa using ha)) ⟨by omega, by omega⟩ m1 rfl, sl_lit b2 (cellsAre_ints (xs := [b]) (by simpa using hb)) ⟨by omega, by omega⟩ m1 rfl⟩
end Go.Proofs.Ytcdplnikpbbomaa
