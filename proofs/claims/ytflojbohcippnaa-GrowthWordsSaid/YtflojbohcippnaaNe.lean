/-
  Layer 10: the walks of the program's zero and rows.
-/
import Derived.Test.YtflojbohcippnaaNd
import Derived.Laws.Rows
namespace Go.Proofs.Ytflojbohcippnaa
open Go.RowKit Go.Sort

def gridC (g n k : Nat) : Array Value := ((List.range n).map fun i => if i < k then Value.slice (some ⟨g + 1 + i, 0, none⟩) n n else .slice none 0 0).toArray
theorem gridC_get {g n k i : Nat} (hi : i < n) : (gridC g n k)[i]? = some (if i < k then Value.slice (some ⟨g + 1 + i, 0, none⟩) n n else .slice none 0 0) := by
  unfold gridC; simp [hi]
theorem gridC_set (g n k : Nat) : (gridC g n k).setIfInBounds k (.slice (some ⟨g + 1 + k, 0, none⟩) n n) = gridC g n (k + 1) := by
  unfold gridC
  apply Array.ext_getElem?
  intro i
  rw [Array.getElem?_setIfInBounds]
  by_cases hi : i < n <;> by_cases hik : k = i
  · subst hik; simp [hi]
  · have : i < k + 1 ↔ i < k := by omega
    simp [hi, hik, this]
  · subst hik; simp [hi]
  · simp [hi, hik]
theorem gridC_made (g n : Nat) : madeCells #[Value.slice none 0 0] n = gridC g n 0 := by
  unfold madeCells gridC
  apply Array.ext_getElem?
  intro i
  by_cases hi : i < n <;> simp [hi, Nat.mod_one]
theorem gridC_size (g n k : Nat) : (gridC g n k).size = n := by unfold gridC; simp

/-- n rows of n numbers behind the block g, k of them laid -/
structure Grid (w : World) (g n k : Nat) (F : Nat → Nat → Int) : Prop where
  top : Blk w g 27 (gridC g n k)
  row : ∀ i, i < k → Blk w (g + 1 + i) 2 (cellsN n (F i))
theorem Grid.same {w w' : World} {g n k : Nat} {F : Nat → Nat → Int} (h : Grid w g n k F) (e : ∀ q, q < w.heap.size → w'.heap[q]? = w.heap[q]?) : Grid w' g n k F :=
  ⟨h.top.same (e _ h.top.lt), fun i hi => (h.row i hi).same (e _ (h.row i hi).lt)⟩
theorem Grid.alloc {w : World} {g n k : Nat} {F : Nat → Nat → Int} (h : Grid w g n k F) (o : Obj) : Grid (w.alloc o) g n k F := h.same fun q hq => Below.heap_alloc w o q hq
theorem Grid.set {w : World} {g n k : Nat} {F : Nat → Nat → Int} (h : Grid w g n k F) {i : Nat} (hi : i < k) (j : Nat) (v : Int) :
    Grid (w.setCell ⟨g + 1 + i, j, none⟩ (.int .i64 v)) g n k (fun a => if a = i then (fun b => if b = j then v else F i b) else F a) := by
  refine ⟨h.top.same ?_, fun a ha => ?_⟩
  · unfold World.setCell; rw [Array.getElem?_modify, if_neg (by simp; omega)]
  · by_cases he : a = i
    · subst he
      simp only [if_true]
      have := (h.row a ha).set j (.int .i64 v)
      rwa [cellsN_set] at this
    · simp only [if_neg he]
      refine (h.row a ha).same ?_
      unfold World.setCell; rw [Array.getElem?_modify, if_neg (by simp; omega)]
theorem Grid.sl {w : World} {g n : Nat} {F : Nat → Nat → Int} {G : Nat → Prop} (h : Grid w g n n F) (hn : n ≤ 1000) (hF : ∀ i, i < n → ∀ k, k < n → Fits .i64 (F i k)) (hG : ∀ q, g ≤ q → q < g + 1 + n → G q) :
    SlAt (pSl (pI .i64)) G w (some ⟨g, 0, none⟩) n ((List.range n).map fun i => (List.range n).map (F i)) := by
  refine ⟨by simp, by unfold maxLen; omega, (fun e => by cases e), fun i x hx => ?_⟩
  have hi : i < n := by
    have := (List.getElem?_eq_some_iff.1 hx).1
    simpa using this
  have hxi : x = (List.range n).map (F i) := by
    rw [List.getElem?_map, List.getElem?_range hi] at hx
    simpa using hx.symm
  subst hxi
  refine ⟨g, 0, _, rfl, hG g (Nat.le_refl _) (by omega), ⟨some ⟨g + 1 + i, 0, none⟩, n, rfl, sl_of_blk (h.row i hi) (hG _ (by omega) (by omega)) (by unfold maxLen; omega) (hF i hi)⟩, fun j c hc => ?_⟩
  match j, hc with
  | 0, hc =>
    simp at hc; subst hc
    rw [h.top.cell]
    simpa [pSl, hi] using gridC_get (g := g) (k := n) hi

set_option maxRecDepth 100000 in
set_option maxHeartbeats 1000000 in
theorem zero_calls (n : Nat) (w : World) (hn : n ≤ 12) :
    Calls Try.prog 34 #[.int .i64 n] w fun e w' => e = .returned (.slice (some ⟨w.heap.size, 0, none⟩) n n) ∧ Below w.heap.size w w' ∧ w.heap.size + 1 + n ≤ w'.heap.size ∧ Grid w' w.heap.size n n (fun _ _ => 0) := by
  have hmk := fun (wx : World) => run_make_row' (P := Try.prog) 27 2 (.int .i64 0) 8 Try.underlying27 info_int64 rfl .i64 .i64 n (by omega) (by omega) wx
  simp only [cellsN_made] at hmk
  have hmo := fun (wx : World) => run_make_row' (P := Try.prog) 51 27 (.slice none 0 0) 24 Try.underlying51 info_sl64 rfl .i64 .i64 n (by omega) (by omega) wx
  rw [gridC_made w.heap.size] at hmo
  go_enter Try.func34, Try.ntmps34
  go_wp2
  go_loopw [9] (fun i wr => ∃ k : Nat, k ≤ n ∧ i = .int .i64 k ∧ Hid (Below w.heap.size w wr) ∧ Hid (wr.heap.size = w.heap.size + 1 + k) ∧ Hid (Grid wr w.heap.size n k (fun _ _ => 0))) (fun i _ => n - (intOf i).toNat)
  case atStart => exact ⟨0, Nat.zero_le _, rfl, (Below.refl _ _).alloc (Nat.le_refl _) _, by unfold Hid; simp, ⟨Blk.new _ _ _, fun i hi => absurd hi (Nat.not_lt_zero _)⟩⟩
  case round =>
    obtain ⟨k, hk, rfl, hb, hsz, hgr⟩ := hrel
    by_cases hlt : k < n
    · have htop := hgr.out.top.alloc (.cells (cellsN n fun _ => 0) 2)
      have hcm := (htop.cell k).trans (gridC_get (k := k) hlt)
      rw [if_neg (Nat.lt_irrefl _)] at hcm
      have hfz := htop.free k
      have hg1 := hgr.out.alloc (.cells (cellsN n fun _ => 0) 2)
      have hnew := Blk.new wr 2 (cellsN n fun _ => 0)
      have hset := htop.set k (.slice (some ⟨wr.heap.size, 0, none⟩) n n)
      have hbb : Below w.heap.size w ((wr.alloc (.cells (cellsN n fun _ => 0) 2)).setCell ⟨w.heap.size, k, none⟩ (.slice (some ⟨wr.heap.size, 0, none⟩) n n)) := (hb.out.alloc (by have := hsz.out; omega) _).setCell (Nat.le_refl _) _
      have hgrid : Grid ((wr.alloc (.cells (cellsN n fun _ => 0) 2)).setCell ⟨w.heap.size, k, none⟩ (.slice (some ⟨wr.heap.size, 0, none⟩) n n)) w.heap.size n (k + 1) (fun _ _ => 0) := by
        refine ⟨?_, fun i hi => ?_⟩
        · rw [hsz.out] at hset ⊢; rwa [gridC_set] at hset
        · have hne : w.heap.size ≠ w.heap.size + 1 + i := by omega
          by_cases hik : i < k
          · refine (hg1.row i hik).same ?_
            unfold World.setCell; rw [Array.getElem?_modify, if_neg hne]
          · obtain rfl : i = k := by omega
            rw [hsz.out] at hnew
            refine hnew.same ?_
            rw [hsz.out]
            unfold World.setCell; rw [Array.getElem?_modify, if_neg hne]
      have hsz2 : ((wr.alloc (.cells (cellsN n fun _ => 0) 2)).setCell ⟨w.heap.size, k, none⟩ (.slice (some ⟨wr.heap.size, 0, none⟩) n n)).heap.size = w.heap.size + 1 + (k + 1) := by
        simp [World.setCell]; rw [hsz.out]; omega
      have Hbb := Lib.hid hbb; clear hbb
      have Hgrid := Lib.hid hgrid; clear hgrid
      have Hsz2 := Lib.hid hsz2; clear hsz2
      clear htop hg1 hnew hset
      go_wp2
      go_roundw
      case rel => exact ⟨k + 1, by omega, by go_num, Hbb, Hsz2, Hgrid⟩
      case measure => simp [intOf]; omega
    · obtain rfl : k = n := by omega
      go_wp2
      go_ret
      exact ⟨rfl, hb.out, Nat.le_of_eq hsz.out.symm, hgr.out⟩
end Go.Proofs.Ytflojbohcippnaa
