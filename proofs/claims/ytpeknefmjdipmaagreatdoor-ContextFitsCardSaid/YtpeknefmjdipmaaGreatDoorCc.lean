/-
  Layer 8: the walk of neighbours.
-/
import Derived.Test.YtpeknefmjdipmaaGreatDoorCb
import Derived.Test.YtpeknefmjdipmaaGreatDoorM1
import Derived.Maps.AppendAt
import Derived.StillTailTactics
import Derived.Deep.RegionHeld3
import Derived.Deep.DeepCutAuto
namespace Go.Proofs.YtpeknefmjdipmaaGreatDoor
open Go.RowKit Go.Sort

/-! ### a row of integers that the call may write and append to -/
section
variable {e : TypeId} {base : Nat} {G : Nat → Prop} {w : World}
theorem cellsInts {F : Nat → Prop} : ∀ {xs : List Int} {cells : List Value}, CellsAre (pI .i64) F w cells xs → cells = xs.map (Value.int .i64) ∧ ∀ x ∈ xs, Fits .i64 x
  | [], cells, h => ⟨h, fun x hx => by simp at hx⟩
  | x :: xs, cells, ⟨cs, rest, h1, h2, h3⟩ => by
    obtain ⟨h4, h5⟩ := cellsInts h3
    obtain ⟨h6, h7⟩ := h2
    subst h6 h4
    refine ⟨h1, fun y hy => ?_⟩
    rcases List.mem_cons.1 hy with rfl | hy
    · exact h7
    · exact h5 y hy
/-- cell i of a row, and that it may be written -/
theorem Own.at {A : Option Addr} {n c : Nat} {xs : List Int} (h : Own (pI .i64) e base G w (.slice A n c) xs) {i : Nat} {x : Int} (hx : xs[i]? = some x) :
    ∃ g, A = some ⟨g, 0, none⟩ ∧ base ≤ g ∧ g < w.heap.size ∧ w.cell? ⟨g, i, none⟩ = some (.int .i64 x) ∧ (∀ k, w.frozen? ⟨g, k, none⟩ = false) ∧ Fits .i64 x ∧ n ≤ c := by
  obtain ⟨cells, ⟨h1, h2⟩, h3⟩ := h
  obtain ⟨h4, h5⟩ := cellsInts h3
  rcases h2 with ⟨hv, h0⟩ | ⟨g, cap, cur, hv, hb, hg, hnc, hcm, hsz, htake⟩
  · rw [List.eq_nil_of_length_eq_zero h0] at hx; simp at hx
  · cases hv
    refine ⟨g, rfl, hb, (Array.getElem?_eq_some_iff.1 hg).1, ?_, fun k => Blk.free (t := e) (cs := cur) hg k, h5 x (List.mem_of_getElem? hx), hnc⟩
    have h6 : cells[i]? = some (.int .i64 x) := by rw [h4, List.getElem?_map, hx]; rfl
    have hi : i < cells.length := (List.getElem?_eq_some_iff.1 h6).1
    rw [← htake, List.getElem?_take] at h6
    split at h6
    · rw [Blk.cell (t := e) (cs := cur) hg]; simpa using h6
    · cases h6
/-- cell i of a row is set -/
theorem Own.setAt {g : Nat} {n c : Nat} {xs : List Int} (h : Own (pI .i64) e base (fun _ => False) w (.slice (some ⟨g, 0, none⟩) n c) xs) {i : Nat} {v : Int} (hv : Fits .i64 v) :
    Own (pI .i64) e base (fun _ => False) (w.setCell ⟨g, i, none⟩ (.int .i64 v)) (.slice (some ⟨g, 0, none⟩) n c) (xs.set i v) := by
  obtain ⟨cells, ⟨h1, h2⟩, h3⟩ := h
  obtain ⟨h4, h5⟩ := cellsInts h3
  rcases h2 with ⟨hv', h0⟩ | ⟨g', cap, cur, hv', hb, hg, hnc, hcm, hsz, htake⟩
  · cases hv'
  · injection hv' with e1 e2 e3
    injection e1 with e1
    injection e1 with e1 _ _
    subst e1 e2 e3
    refine ⟨(xs.set i v).map (Value.int .i64), ⟨by simp [pI], .inr ⟨g, c, cur.setIfInBounds i (.int .i64 v), by rw [List.length_set], hb, Blk.set (t := e) (cs := cur) hg i _, by simpa using hnc, hcm, by simpa using hsz, ?_⟩⟩, ?_⟩
    · rw [Array.toList_setIfInBounds, List.map_set, ← h4, ← htake]
      rw [List.take_set]
      simp
    · refine cellsAre_ints fun x hx => ?_
      rcases List.mem_or_eq_of_mem_set hx with hx | rfl
      · exact h5 x hx
      · exact hv
/-- the beginning of a row -/
theorem Own.taken {A : Option Addr} {n c k : Nat} {xs : List Int} (h : Own (pI .i64) e base (fun _ => False) w (.slice A n c) xs) (hk : k < xs.length) : Own (pI .i64) e base (fun _ => False) w (.slice A k c) (xs.take k) := by
  obtain ⟨cells, ⟨h1, h2⟩, h3⟩ := h
  obtain ⟨h4, h5⟩ := cellsInts h3
  rcases h2 with ⟨hv', h0⟩ | ⟨g', cap, cur, hv', hb, hg, hnc, hcm, hsz, htake⟩
  · omega
  · cases hv'
    have hlk : (xs.take k).length = k := by simp; omega
    refine ⟨(xs.take k).map (Value.int .i64), ⟨by simp [pI], .inr ⟨g', c, cur, by rw [hlk], hb, hg, by rw [hlk]; omega, hcm, hsz, ?_⟩⟩, cellsAre_ints fun x hx => h5 x (List.mem_of_mem_take hx)⟩
    rw [List.map_take, ← h4, ← htake, List.take_take]
    congr 1
    simp [pI]
end
theorem own_one {e : TypeId} {base : Nat} {G : Nat → Prop} {w : World} {v : Int} (hb : base ≤ w.heap.size) (hv : Fits .i64 v) : Own (pI .i64) e base G (w.alloc (.cells #[.int .i64 v] e)) (.slice (some ⟨w.heap.size, 0, none⟩) 1 1) [v] :=
  ⟨[.int .i64 v], ⟨by simp [pI], .inr ⟨w.heap.size, 1, #[.int .i64 v], rfl, hb, heap_alloc_new w _, by simp, by unfold maxLen; omega, by simp [pI], by simp [pI]⟩⟩, CellsAre.one (E := pI .i64) ⟨rfl, hv⟩⟩

def leftL (p : ByteArray) (ms : List Mod) : List Int := (List.range ms.length).map (leftF p ms)
def rightL (p : ByteArray) (ms : List Mod) : List Int := (List.range ms.length).map (rightF p ms)
def NeighPost (p : ByteArray) (ms : List Mod) (w : World) (e : Ending) (w' : World) : Prop :=
  ∃ A c A' c', e = .returned (.tuple #[.slice A ms.length c, .slice A' ms.length c']) ∧ SlAt (pI .i64) (fun k => w.heap.size ≤ k ∧ k < w'.heap.size) w' A c (leftL p ms) ∧ SlAt (pI .i64) (fun k => w.heap.size ≤ k ∧ k < w'.heap.size) w' A' c' (rightL p ms) ∧ Below w.heap.size w w'
/-- two rows of zeros, made in either order -/
structure TwoRows (w : World) (n : Nat) (W : World) (gl gr : Nat) (f g : Nat → Int) : Prop where
  l : Blk W gl 3 (cellsN n f)
  r : Blk W gr 3 (cellsN n g)
  b : Below w.heap.size w W
  gt : w.heap.size ≤ gl ∧ w.heap.size ≤ gr ∧ gl < w.heap.size + 2 ∧ gr < w.heap.size + 2 ∧ gl ≠ gr
  sz : w.heap.size + 2 ≤ W.heap.size
def NeighCut (w : World) (n : Nat) (s4 s5 : Value) (W : World) : Prop := ∃ gl gr, s4 = .slice (some ⟨gl, 0, none⟩) n n ∧ s5 = .slice (some ⟨gr, 0, none⟩) n n ∧ TwoRows w n W gl gr (fun _ => 0) (fun _ => 0)
theorem info_intN : (Tryz.prog.info? 3).map (fun i => (i.zero, i.size, i.bytes)) = some (some (.int .i64 0), 1, 8) := by kernel_rfl
theorem two_new (w : World) (n : Nat) : TwoRows w n (((w.alloc (.cells (cellsN n fun _ => 0) 3)).alloc (.cells (cellsN n fun _ => 0) 3)).drew) w.heap.size (w.heap.size + 1) (fun _ => 0) (fun _ => 0) ∧
    TwoRows w n (((w.alloc (.cells (cellsN n fun _ => 0) 3)).alloc (.cells (cellsN n fun _ => 0) 3)).drew) (w.heap.size + 1) w.heap.size (fun _ => 0) (fun _ => 0) := by
  have h2 := Blk.new (w.alloc (.cells (cellsN n fun _ => 0) 3)) 3 (cellsN n fun _ => 0)
  rw [show (w.alloc (.cells (cellsN n fun _ => 0) 3)).heap.size = w.heap.size + 1 from by simp] at h2
  have h1 := (Blk.new w 3 (cellsN n fun _ => 0)).alloc (.cells (cellsN n fun _ => 0) 3)
  have hb : Below w.heap.size w (((w.alloc (.cells (cellsN n fun _ => 0) 3)).alloc (.cells (cellsN n fun _ => 0) 3)).drew) := below_drew (((Below.refl _ _).alloc (Nat.le_refl _) _).alloc (by simp) _)
  exact ⟨⟨h1, h2, hb, by omega, by simp⟩, ⟨h2, h1, hb, by omega, by simp⟩⟩
theorem neigh_cut1 (w : World) (n : Nat) : NeighCut w n (.slice (some ⟨w.heap.size, 0, none⟩) n n) (.slice (some ⟨w.heap.size + 1, 0, none⟩) n n) (((w.alloc (.cells (cellsN n fun _ => 0) 3)).alloc (.cells (cellsN n fun _ => 0) 3)).drew) := ⟨_, _, rfl, rfl, (two_new w n).1⟩
theorem neigh_cut2 (w : World) (n : Nat) : NeighCut w n (.slice (some ⟨w.heap.size + 1, 0, none⟩) n n) (.slice (some ⟨w.heap.size, 0, none⟩) n n) (((w.alloc (.cells (cellsN n fun _ => 0) 3)).alloc (.cells (cellsN n fun _ => 0) 3)).drew) := ⟨_, _, rfl, rfl, (two_new w n).2⟩

/-- one row's cell is set -/
theorem TwoRows.setL {w W : World} {n gl gr : Nat} {f g : Nat → Int} (h : TwoRows w n W gl gr f g) (k : Nat) (v : Int) : TwoRows w n (W.setCell ⟨gl, k, none⟩ (.int .i64 v)) gl gr (fun i => if i = k then v else f i) g := by
  refine ⟨?_, h.r.same (Below.heap_setCell _ _ _ _ (Ne.symm h.gt.2.2.2.2)), h.b.setCell h.gt.1 _, h.gt, by simpa [World.setCell] using h.sz⟩
  have := h.l.set k (.int .i64 v)
  rwa [cellsN_set] at this
theorem TwoRows.setR {w W : World} {n gl gr : Nat} {f g : Nat → Int} (h : TwoRows w n W gl gr f g) (k : Nat) (v : Int) : TwoRows w n (W.setCell ⟨gr, k, none⟩ (.int .i64 v)) gl gr f (fun i => if i = k then v else g i) := by
  refine ⟨h.l.same (Below.heap_setCell _ _ _ _ h.gt.2.2.2.2), ?_, h.b.setCell h.gt.2.1 _, h.gt, by simpa [World.setCell] using h.sz⟩
  have := h.r.set k (.int .i64 v)
  rwa [cellsN_set] at this
theorem TwoRows.keep {w W W' : World} {n gl gr : Nat} {f g : Nat → Int} (h : TwoRows w n W gl gr f g) (hb : Below (w.heap.size + 2) W W') : TwoRows w n W' gl gr f g :=
  ⟨h.l.same (hb.block _ h.gt.2.2.1), h.r.same (hb.block _ h.gt.2.2.2.1), h.b.trans (hb.mono (by omega)), h.gt, Nat.le_trans h.sz hb.size⟩
theorem TwoRows.congr {w W : World} {n gl gr : Nat} {f g f' g' : Nat → Int} (h : TwoRows w n W gl gr f g) (hf : ∀ i, i < n → f' i = f i) (hg : ∀ i, i < n → g' i = g i) : TwoRows w n W gl gr f' g' := by
  have e : ∀ {f f' : Nat → Int}, (∀ i, i < n → f' i = f i) → cellsN n f' = cellsN n f := fun hf => by
    unfold cellsN
    congr 1
    exact List.map_congr_left fun i hi => by rw [hf i (List.mem_range.1 hi)]
  exact ⟨by rw [e hf]; exact h.l, by rw [e hg]; exact h.r, h.b, h.gt, h.sz⟩

theorem leftF_brk {p : ByteArray} {ms : List Mod} {k : Nat} (h : nameAt ms k = 91 ∨ nameAt ms k = 93) : leftF p ms k = -1 := by
  unfold leftF brkB; rw [if_pos]; rcases h with h | h <;> rw [h] <;> rfl
theorem leftF_else {p : ByteArray} {ms : List Mod} {k : Nat} (h1 : nameAt ms k ≠ 91) (h2 : nameAt ms k ≠ 93) : leftF p ms k = befAt p ms k 0 := by
  unfold leftF brkB; rw [if_neg]; simp [h1, h2]
theorem rightF_brk {p : ByteArray} {ms : List Mod} {k : Nat} (h : nameAt ms k = 91 ∨ nameAt ms k = 93) : rightF p ms k = -1 := by
  unfold rightF brkB; rw [if_pos]; rcases h with h | h <;> rw [h] <;> rfl
theorem rightF_else {p : ByteArray} {ms : List Mod} {k : Nat} (h1 : nameAt ms k ≠ 91) (h2 : nameAt ms k ≠ 93) : rightF p ms k = behAt p (ms.drop (k + 1)) (k + 1) 0 := by
  unfold rightF brkB; rw [if_neg]; simp [h1, h2]
theorem rows_next {p : ByteArray} {ms : List Mod} {w W : World} {gl gr k : Nat} {f g : Nat → Int} (h : TwoRows w ms.length W gl gr f g) (hf : ∀ i, f i = if i = k then leftF p ms k else if i < k then leftF p ms i else 0) (hg : ∀ i, g i = if i = k then -1 else if i < k then -1 else 0) :
    TwoRows w ms.length W gl gr (fun j => if j < k + 1 then leftF p ms j else 0) (fun j => if j < k + 1 then -1 else 0) := by
  refine h.congr (fun i _ => ?_) fun i _ => ?_
  · rw [hf]
    rcases Nat.lt_trichotomy i k with h | rfl | h
    · rw [if_pos (by omega), if_neg (by omega), if_pos h]
    · rw [if_pos (by omega), if_pos rfl]
    · rw [if_neg (by omega), if_neg (by omega), if_neg (by omega)]
  · rw [hg]
    rcases Nat.lt_trichotomy i k with h | rfl | h
    · rw [if_pos (by omega), if_neg (by omega), if_pos h]
    · rw [if_pos (by omega), if_pos rfl]
    · rw [if_neg (by omega), if_neg (by omega), if_neg (by omega)]
theorem rows_prev {p : ByteArray} {ms : List Mod} {w W : World} {gl gr k : Nat} {f g : Nat → Int} (h : TwoRows w ms.length W gl gr f g) (hf : ∀ i, f i = leftF p ms i) (hg : ∀ i, g i = if i = k then rightF p ms k else if k + 1 ≤ i then rightF p ms i else -1) :
    TwoRows w ms.length W gl gr (leftF p ms) (fun j => if k ≤ j then rightF p ms j else -1) := by
  refine h.congr (fun i _ => (hf i).symm) fun i _ => ?_
  rw [hg]
  rcases Nat.lt_trichotomy i k with h | rfl | h
  · rw [if_neg (by omega), if_neg (by omega), if_neg (by omega)]
  · rw [if_pos (by omega), if_pos rfl]
  · rw [if_pos (by omega), if_neg (by omega), if_pos (by omega)]
/-- another block is written -/
theorem own_set {base : Nat} {W : World} {v : Value} {L : List Int} {e : TypeId} (h : Own (pI .i64) e base (fun _ => False) W v L) {g k : Nat} (hg : g < base) (u : Value) : Own (pI .i64) e base (fun _ => False) (W.setCell ⟨g, k, none⟩ u) v L := by
  refine h.keepG (fun q hq hG => ?_) (by simp [World.setCell])
  rcases hG with hG | hG
  · exact hG.elim
  · have h1 := (h.lt q hG).1
    exact Below.heap_setCell _ _ _ _ (by show q ≠ g; omega)
theorem rows_own {w W W' : World} {n gl gr : Nat} {f g : Nat → Int} (h : TwoRows w n W gl gr f g) (hb : Below (w.heap.size + 2) W W') : TwoRows w n W' gl gr f g := h.keep hb

set_option maxRecDepth 100000 in
set_option maxHeartbeats 4000000 in
theorem neighbours_calls (A : Option Addr) (cb : Nat) (ms : List Mod) (p : ByteArray) (w : World) (h : SlAt pMod (Old w) w A cb ms) (hbal : Bal ms) (hl : ms.length ≤ 2000) :
    Calls Tryz.prog 23 #[.slice A ms.length cb, .string p] w (NeighPost p ms w) := by
  have hmx := h.lenle
  have hmk : ∀ wx : World, (Instr.makeSlice 25 (.int .i64 (ms.length : Int)) (.int .i64 (ms.length : Int))).run Tryz.prog wx = .ok (.slice (some ⟨wx.heap.size, 0, none⟩) ms.length ms.length) (wx.alloc (.cells (cellsN ms.length fun _ => 0) 3)) := fun wx => by
    have := run_make_rowN (P := Tryz.prog) (t := 25) (e := 3) Tryz.underlying25 info_intN ms.length (by omega) (by omega) wx
    rw [Nat.mul_one] at this
    rw [this, ← cellsN_made]; rfl
  have nc1 := neigh_cut1 w ms.length
  have nc2 := neigh_cut2 w ms.length
  generalize (cellsN ms.length fun _ => 0) = Z at hmk nc1 nc2
  have H := Lib.hid h; clear h
  have Nc1 := Lib.hid nc1; clear nc1
  have Nc2 := Lib.hid nc2; clear nc2
  go_enter Tryz.func23, Tryz.ntmps23
  go_wp2
  go_cut [4, 5] (fun s4 s5 wx => NeighCut w ms.length s4 s5 wx)
  case first =>
    go_region_held3 (fun w' => True) (trivial) (fail)
    all_goals
      go_wp2_with fail
      go_meet
      first | exact Nc1.out | exact Nc2.out
  case rest =>
  obtain ⟨gl, gr, rfl, rfl, ht⟩ := hcut
  have hz := ht.sz
  have hone : Own (pI .i64) 3 (w.heap.size + 2) (fun _ => False) (wc.alloc (.cells #[.int .i64 (-1)] 3)) (.slice (some ⟨wc.heap.size, 0, none⟩) 1 1) [-1] := own_one hz (fits_i64 (by omega))
  have ht1 := ht.keep (W' := wc.alloc (.cells #[.int .i64 (-1)] 3)) ((Below.refl _ _).alloc hz _)
  have hst := StkL.start p ms
  have hcn1 := ht1.congr (f' := fun j => if j < 0 then leftF p ms j else 0) (g' := fun j => if j < 0 then -1 else 0) (fun i _ => by simp) (fun i _ => by simp)
  have Ht := Lib.hid ht; clear ht
  have Ht1 := Lib.hid ht1; clear ht1
  have Hone := Lib.hid hone; clear hone
  have Hst := Lib.hid hst; clear hst
  have Hcn1 := Lib.hid hcn1; clear hcn1
  have Hbal := Lib.hid hbal; clear hbal
  clear hmk Nc1 Nc2
  go_wp2
  go_loopw [22, 6] (fun i lv wr => ∃ (k : Nat) (Al : Option Addr) (cl : Nat) (L : List Int), k ≤ ms.length ∧ i = .int .i64 k ∧ lv = .slice Al (opn ms k + 1) cl ∧ w.heap.size + 2 ≤ wr.heap.size ∧ Hid (TwoRows w ms.length wr gl gr (fun j => if j < k then leftF p ms j else 0) (fun j => if j < k then -1 else 0)) ∧ Hid (StkL p ms k L) ∧
    Hid (Own (pI .i64) 3 (w.heap.size + 2) (fun _ => False) wr lv L)) (fun i _ _ => ms.length - (intOf i).toNat)
  case atStart => exact ⟨0, some ⟨wc.heap.size, 0, none⟩, 1, [-1], Nat.zero_le _, rfl, rfl, by simp; omega, Hcn1, Hst, Hone⟩
  case round =>
    obtain ⟨k, Al, cl, L, hk, rfl, rfl, hsz, htw, hstk, hown⟩ := hrel
    obtain ⟨wo, rfl⟩ : ∃ wo : World, wo = wr := ⟨_, rfl⟩
    have hopl := opn_le ms k
    by_cases hlt : k < ms.length
    case neg =>
      obtain rfl : k = ms.length := by omega
      have hrow0 := htw.out.congr (f' := leftF p ms) (g' := fun j => if ms.length ≤ j then rightF p ms j else -1) (fun i hi => by rw [if_pos hi]) (fun i hi => by rw [if_pos hi, if_neg (by omega)])
      have hone2 : Own (pI .i64) 3 (w.heap.size + 2) (fun _ => False) (wo.alloc (.cells #[.int .i64 (-1)] 3)) (.slice (some ⟨wo.heap.size, 0, none⟩) 1 1) [-1] := own_one hsz (fits_i64 (by omega))
      have hrow1 := hrow0.keep (W' := wo.alloc (.cells #[.int .i64 (-1)] 3)) ((Below.refl _ _).alloc hsz _)
      have hst2 := StkR.start p Hbal.out
      have hf0 := Hbal.out.fin
      have hsz1 : w.heap.size + 2 ≤ (wo.alloc (.cells #[.int .i64 (-1)] 3)).heap.size := by simp; omega
      have Hone2 := Lib.hid hone2; clear hone2
      have Hrow1 := Lib.hid hrow1; clear hrow1
      have Hst2 := Lib.hid hst2; clear hst2
      have Hf0 := Lib.hid hf0; clear hf0
      clear hrow0 htw hstk hown
      go_wp2
      go_loopw [76, 9] (fun i lv wr => ∃ (t k : Nat) (Al : Option Addr) (cl : Nat) (L : List Int), t + k = ms.length ∧ i = .int .i64 t ∧ lv = .slice Al (opn ms k + 1) cl ∧ w.heap.size + 2 ≤ wr.heap.size ∧ Hid (TwoRows w ms.length wr gl gr (leftF p ms) (fun j => if k ≤ j then rightF p ms j else -1)) ∧ Hid (StkR p ms k L) ∧
        Hid (Own (pI .i64) 3 (w.heap.size + 2) (fun _ => False) wr lv L)) (fun i _ _ => ms.length - (intOf i).toNat)
      case atStart => exact ⟨0, ms.length, some ⟨wo.heap.size, 0, none⟩, 1, [-1], Nat.zero_add _, rfl, by rw [Hf0.out], hsz1, Hrow1, Hst2, Hone2⟩
      case round =>
        obtain ⟨t, k, Al, cl, L, htk, rfl, rfl, hsz, htw, hstk, hown⟩ := hrel
        obtain ⟨wo, rfl⟩ : ∃ wo : World, wo = wr := ⟨_, rfl⟩
        by_cases hlt : t < ms.length
        case neg =>
          have hk0 : k = 0 := by omega
          subst hk0
          have hrw := htw.out.congr (f' := leftF p ms) (g' := rightF p ms) (fun i _ => rfl) (fun i _ => by rw [if_pos (Nat.zero_le i)])
          obtain ⟨g1, g2, g3, g4, g5⟩ := hrw.gt
          have hs1 : SlAt (pI .i64) (fun k => w.heap.size ≤ k ∧ k < wo.heap.size) wo (some ⟨gl, 0, none⟩) ms.length (leftL p ms) :=
            sl_of_blk hrw.l ⟨g1, hrw.l.lt⟩ (by unfold maxLen; omega) (fun i hi => fits_i64 (by have := leftF_rng p ms i; omega))
          have hs2 : SlAt (pI .i64) (fun k => w.heap.size ≤ k ∧ k < wo.heap.size) wo (some ⟨gr, 0, none⟩) ms.length (rightL p ms) :=
            sl_of_blk hrw.r ⟨g2, hrw.r.lt⟩ (by unfold maxLen; omega) (fun i hi => fits_i64 (by have := rightF_rng p ms i hi; omega))
          have hbw := hrw.b
          have Hrw := Lib.hid hrw; clear hrw
          have Hs1 := Lib.hid hs1; clear hs1
          have Hs2 := Lib.hid hs2; clear hs2
          have Hbw := Lib.hid hbw; clear hbw
          go_wp2
          go_ret2
          exact ⟨_, _, _, _, rfl, Hs1.out, Hs2.out, Hbw.out⟩
        case pos =>
          obtain ⟨i, rfl⟩ : ∃ i, k = i + 1 := ⟨k - 1, by omega⟩
          have hil : i < ms.length := by omega
          have hopl := opn_le ms (i + 1)
          have hidx : (ms.length : Int) - 1 - (t : Int) = (i : Int) := by omega
          obtain ⟨b, o, D, d, m, hd, hA, hob, q0, q1, hx8, hxa, hxl⟩ := (H.out.below htw.out.b).getMod hil
          subst hA
          have hobw : b < w.heap.size := hob
          have htop := hstk.out.top
          obtain ⟨ga, rfl, hg1, hg2, hct, hfz, hft, hcap⟩ := hown.out.at htop
          obtain ⟨hgl1, hgl2, hgl3, hgl4, hgl5⟩ := htw.out.gt
          have hnm := nameAt_drop hd.out
          have ht0 : (0 : Int) ≤ (t : Int) := Int.natCast_nonneg _
          have hi0 : (0 : Int) ≤ (i : Int) := Int.natCast_nonneg _
          have hi1 : (i : Int) < (ms.length : Int) := by omega
          have Hnm := Lib.hid hnm; clear hnm
          clear q1 hxa
          go_upto_region 22 with fail
          clear hidx
          by_cases h93 : m.name = 93
          · have e93 : (m.name == 93) = true := by simp [h93]
            have hn93 := Hnm.out.trans h93
            have hpos := Hbal.out.pos i hil hn93
            have hpush := hstk.out.push hil hn93 hpos
            have hopn : opn ms i + 1 = opn ms (i + 1) + 1 + 1 := by rw [opn_succ, if_neg (by rw [Hnm.out]; omega), if_pos hn93]; omega
            have hrow := rows_prev (k := i) htw.out (fun _ => rfl) (fun j => by
              by_cases hji : j = i
              · rw [if_pos hji, if_neg (by omega), rightF_brk (.inr hn93)]
              · rw [if_neg hji])
            have hln : L.length + 1 = opn ms (i + 1) + 1 + 1 := by rw [hstk.out.1]
            have hrm : Room L.length := room_of (by rw [hstk.out.1]; omega)
            have hbf : (pI .i64).R (fun _ => False) wo (Value.int .i64 (-1)).cells.toList (-1) := ⟨rfl, fits_i64 (by omega)⟩
            have Hpush := Lib.hid hpush; clear hpush
            have Hopn := Lib.hid hopn; clear hopn
            have Hrow := Lib.hid hrow; clear hrow
            have Hln := Lib.hid hln; clear hln
            have Hrm := Lib.hid hrm; clear hrm
            have Hbf := Lib.hid hbf; clear hbf
            have Hfz := Lib.hid hfz; clear hfz
            have Hft := Lib.hid hft; clear hft
            have Hn93 := Lib.hid hn93; clear hn93
            clear h93 hct htop
            go_wp2_with ((with_reducible show wpList _ _ _ (Oper.mk (some 114) _ _ _ _ _ :: _) _ _); refine wpList_pushG (E := pI .i64) (xs := L) (v := .slice (some ⟨ga, 0, none⟩) (opn ms (i + 1) + 1) cl) (base := w.heap.size + 2) (G := fun _ => False) 25 3 (.int .i64 0) 8 114 (.tmp 113) (.const (.int .i64 (-1))) rfl rfl rfl rfl rfl Tryz.underlying25 info_intN rfl (by decide) (fun _ => rfl) (fun _ => rfl) hown.out (.int .i64 (-1)) rfl (-1) (fun _ => False) Hbf.out (fun _ h => h.elim) (opn ms (i + 1) + 1 + 1) Hln.out Hrm.out ⟨by decide, by decide⟩ hsz ?_; intro A7 c7 w7 hown7 hg7)
            go_roundw
            case rel =>
              have hz7 := hg7.out.bel.size
              exact ⟨t + 1, i, A7, c7, L ++ [-1], by omega, by go_num, by rw [Hopn.out], by omega, Hrow.out.keep hg7.out.bel, Hpush, hown7⟩
            case measure => simp [intOf]; omega
          · have e93 : (m.name == 93) = false := by simp [h93]
            by_cases h91 : m.name = 91
            · have e91 : (m.name == 91) = true := by simp [h91]
              have hn91 := Hnm.out.trans h91
              have hpop := hstk.out.pop hil hn91
              have hopn : opn ms i + 1 = opn ms (i + 1) := by rw [opn_succ, if_pos hn91]
              have hrow := rows_prev (k := i) htw.out (fun _ => rfl) (fun j => by
                by_cases hji : j = i
                · rw [if_pos hji, if_neg (by omega), rightF_brk (.inl hn91)]
                · rw [if_neg hji])
              have hown3 := hown.out.taken (k := opn ms (i + 1)) (by rw [hstk.out.1]; omega)
              have hcap2 : opn ms (i + 1) ≤ cl := by omega
              have Hpop := Lib.hid hpop; clear hpop
              have Hopn := Lib.hid hopn; clear hopn
              have Hrow := Lib.hid hrow; clear hrow
              have Hown3 := Lib.hid hown3; clear hown3
              have Hfz := Lib.hid hfz; clear hfz
              have Hft := Lib.hid hft; clear hft
              have Hn91 := Lib.hid hn91; clear hn91
              clear h91 h93 hct htop
              go_wp2
              go_roundw
              case rel => exact ⟨t + 1, i, some ⟨ga, 0, none⟩, cl, L.take (opn ms (i + 1)), by omega, by go_num, by rw [Hopn.out], hsz, Hrow, Hpop, Hown3⟩
              case measure => simp [intOf]; omega
            · have e91 : (m.name == 91) = false := by simp [h91]
              have n1 : nameAt ms i ≠ 91 := by rw [Hnm.out]; exact h91
              have n3 : nameAt ms i ≠ 93 := by rw [Hnm.out]; exact h93
              have hopn : opn ms (i + 1) = opn ms i := by rw [opn_succ, if_neg n1, if_neg n3]
              have hrf := rightF_else (p := p) n1 n3
              have cR : wo.cell? ⟨gr, i, none⟩ = some (.int .i64 (-1)) := by
                rw [htw.out.r.cell i, cellsN_get _ hil, if_neg (by omega)]
              have fR := htw.out.r.free i
              obtain ⟨xv, hxv⟩ : ∃ xv, behAt p (ms.drop (i + 1)) (i + 1) 0 = xv := ⟨_, rfl⟩
              rw [hxv] at hct hrf
              have ht3 := htw.out.setR i xv
              have how3 := own_set hown.out hgl4 (k := i) (.int .i64 xv)
              have hrow3 := rows_prev (k := i) ht3 (fun _ => rfl) (fun j => by rw [hrf])
              have N1 := Lib.hid n1; clear n1
              have N3 := Lib.hid n3; clear n3
              have Hopn := Lib.hid hopn; clear hopn
              have Hrf := Lib.hid hrf; clear hrf
              have Ht3 := Lib.hid ht3; clear ht3
              have How3 := Lib.hid how3; clear how3
              have Hrow3 := Lib.hid hrow3; clear hrow3
              have Hxv := Lib.hid hxv; clear hxv
              clear h91 h93
              go_upto_region 25 with fail
              generalize hW2 : wo.setCell ⟨gr, i, none⟩ (.int .i64 xv) = W2 at Ht3 How3 Hrow3 ⊢
              clear hW2 q0 hct hfz cR fR
              obtain ⟨ga', ea, _, hg3', hct2, hfz2, _, _⟩ := How3.out.at htop
              injection ea with ea
              injection ea with ea _ _
              subst ea
              obtain ⟨b', o', D', d', m2, hd', hA', _, q0, q1, hx8', _, _⟩ := (H.out.below Ht3.out.b).getMod hil
              injection hA' with hA'
              injection hA' with e1 e2 _
              subst e1 e2
              have hmm : m2 = m := by have h1 := hd.out; rw [hd'.out] at h1; exact (List.cons.inj h1).1
              subst hmm
              clear q1 hd'
              have hz3 : w.heap.size + 2 ≤ W2.heap.size := Ht3.out.sz
              have hoo : (0 : Int) ≤ (opn ms (i + 1) : Int) := Int.natCast_nonneg _
              by_cases hig : atF p m2.name < 0
              · have hgn : ign p (nameAt ms i) = false := by unfold ign; rw [Hnm.out, decide_eq_false (by omega)]
                have hput := hstk.out.put hil N1.out N3.out hgn
                have hset := How3.out.setAt (i := opn ms (i + 1)) (v := (i : Int)) (fits_i64 (by omega))
                have hfzo := hfz2 (opn ms (i + 1))
                rw [Hxv.out] at hct2
                have hbz : Below (w.heap.size + 2) W2 (W2.setCell ⟨ga, opn ms (i + 1), none⟩ (.int .i64 (i : Int))) := (Below.refl _ _).setCell (by show w.heap.size + 2 ≤ ga; exact hg1) _
                have hsz3 : w.heap.size + 2 ≤ (W2.setCell ⟨ga, opn ms (i + 1), none⟩ (.int .i64 (i : Int))).heap.size := by simp [World.setCell]; exact hz3
                have hrow4 := Hrow3.out.keep hbz
                have Hput := Lib.hid hput; clear hput
                have Hset := Lib.hid hset; clear hset
                have Hfz2 := Lib.hid hfz2; clear hfz2
                have Hft := Lib.hid hft; clear hft
                have Hbz := Lib.hid hbz; clear hbz
                have Hrow4 := Lib.hid hrow4; clear hrow4
                clear hgn Hnm htop
                go_wp2_with (go_at_call 45; refine (ixb_calls _ _ _ hx8').mono ?_; rintro e w' ⟨rfl, rfl⟩)
                go_roundw
                case rel => exact ⟨t + 1, i, some ⟨ga, 0, none⟩, cl, L.set (opn ms (i + 1)) (i : Int), by omega, by go_num, by rw [Hopn.out], hsz3, Hrow4, Hput, Hset⟩
                case measure => simp [intOf]; omega
              · have hgn : ign p (nameAt ms i) = true := by unfold ign; rw [Hnm.out, decide_eq_true (by omega)]
                have hput := hstk.out.stay hil N1.out N3.out hgn
                have Hput := Lib.hid hput; clear hput
                have Hfz2 := Lib.hid hfz2; clear hfz2
                have Hft := Lib.hid hft; clear hft
                clear hgn Hnm htop
                go_wp2_with (go_at_call 45; refine (ixb_calls _ _ _ hx8').mono ?_; rintro e w' ⟨rfl, rfl⟩)
                go_roundw
                case rel => exact ⟨t + 1, i, some ⟨ga, 0, none⟩, cl, L, by omega, by go_num, by rw [Hopn.out], hz3, Hrow3, Hput, How3⟩
                case measure => simp [intOf]; omega
    case pos =>
      obtain ⟨b, o, D, d, m, hd, hA, hob, q0, q1, hx8, hxa, hxl⟩ := (H.out.below htw.out.b).getMod hlt
      subst hA
      have hobw : b < w.heap.size := hob
      have htop := hstk.out.top
      obtain ⟨ga, rfl, hg1, hg2, hct, hfz, hft, hcap⟩ := hown.out.at htop
      obtain ⟨hgl1, hgl2, hgl3, hgl4, hgl5⟩ := htw.out.gt
      have cL := (htw.out.l.cell k).trans (cellsN_get _ hlt)
      have cR := (htw.out.r.cell k).trans (cellsN_get _ hlt)
      have fL := htw.out.l.free k
      have fR := htw.out.r.free k
      have hkf : ¬ k < k := Nat.lt_irrefl k
      simp only [if_neg hkf] at cL cR
      have nn1 : gl ≠ gr := hgl5
      have nn2 : gr ≠ gl := Ne.symm hgl5
      have ht2 := (htw.out.setL k (-1)).setR k (-1)
      have how2 : Own (pI .i64) 3 (w.heap.size + 2) (fun _ => False) ((wo.setCell ⟨gl, k, none⟩ (.int .i64 (-1))).setCell ⟨gr, k, none⟩ (.int .i64 (-1))) (.slice (some ⟨ga, 0, none⟩) (opn ms k + 1) cl) L := by
        refine hown.out.keepG (fun q hq hG => ?_) (by simp [World.setCell])
        rcases hG with hG | hG
        · exact hG.elim
        · have h1 := (hown.out.lt q hG).1
          exact (Below.heap_setCell _ _ _ _ (by show q ≠ gr; omega)).trans (Below.heap_setCell _ _ _ _ (by show q ≠ gl; omega))
      have hb2 : Below w.heap.size w ((wo.setCell ⟨gl, k, none⟩ (.int .i64 (-1))).setCell ⟨gr, k, none⟩ (.int .i64 (-1))) := ht2.b
      have hz2 : w.heap.size + 2 ≤ ((wo.setCell ⟨gl, k, none⟩ (.int .i64 (-1))).setCell ⟨gr, k, none⟩ (.int .i64 (-1))).heap.size := ht2.sz
      have hnm := nameAt_drop hd.out
      have hk0 : (0 : Int) ≤ (k : Int) := Int.natCast_nonneg _
      have Ht2 := Lib.hid ht2; clear ht2
      have How2 := Lib.hid how2; clear how2
      have Hb2 := Lib.hid hb2; clear hb2
      have Hz2 := Lib.hid hz2; clear hz2
      have Hnm := Lib.hid hnm; clear hnm
      clear q0 q1 hxa
      go_upto_region 7 with fail
      generalize hW : (wo.setCell ⟨gl, k, none⟩ (.int .i64 (-1))).setCell ⟨gr, k, none⟩ (.int .i64 (-1)) = W1 at Ht2 How2 Hb2 Hz2 ⊢
      clear hW
      have Hst2 := hstk
      have hz1 := Hz2.out
      obtain ⟨ga', ea, _, hg3, hct1, hfz1, _, _⟩ := How2.out.at htop
      injection ea with ea
      injection ea with ea _ _
      subst ea
      obtain ⟨b', o', D', d', m', hd', hA', _, q0, q1, _, _, _⟩ := (H.out.below Hb2.out).getMod hlt
      injection hA' with hA'
      injection hA' with e1 e2 _
      subst e1 e2
      have hmm : m' = m := by have h1 := hd.out; rw [hd'.out] at h1; exact (List.cons.inj h1).1
      subst hmm
      clear hct hfz cL cR fL fR hown htw q1 hd'
      by_cases h91 : m'.name = 91
      · have e91 : (m'.name == 91) = true := by simp [h91]
        have hpush := hstk.out.push (Hnm.out.trans h91)
        have hopn : opn ms (k + 1) = opn ms k + 1 := by rw [opn_succ, if_pos (Hnm.out.trans h91)]
        have hrow := rows_next (k := k) Ht2.out (fun i => by rw [leftF_brk (.inl (Hnm.out.trans h91))]) (fun i => rfl)
        have hln : L.length + 1 = opn ms k + 1 + 1 := by rw [hstk.out.1]
        have hrm : Room L.length := room_of (by rw [hstk.out.1]; omega)
        have hbf : (pI .i64).R (fun _ => False) W1 (Value.int .i64 (befAt p ms k 0)).cells.toList (befAt p ms k 0) := ⟨rfl, hft⟩
        obtain ⟨xv, hxv⟩ : ∃ xv, befAt p ms k 0 = xv := ⟨_, rfl⟩
        rw [hxv] at hct1 hpush hbf
        have Hpush := Lib.hid hpush; clear hpush
        have Hopn := Lib.hid hopn; clear hopn
        have Hrow := Lib.hid hrow; clear hrow
        have Hln := Lib.hid hln; clear hln
        have Hrm := Lib.hid hrm; clear hrm
        have Hbf := Lib.hid hbf; clear hbf
        have Hxv := Lib.hid hxv; clear hxv
        have Hfz1 := Lib.hid hfz1; clear hfz1
        have Hft := Lib.hid hft; clear hft
        clear h91 Hnm htop
        go_wp2_with ((with_reducible show wpList _ _ _ (Oper.mk (some 65) _ _ _ _ _ :: _) _ _); refine wpList_pushG (E := pI .i64) (xs := L) (v := .slice (some ⟨ga, 0, none⟩) (opn ms k + 1) cl) (base := w.heap.size + 2) (G := fun _ => False) 25 3 (.int .i64 0) 8 65 (.tmp 60) (.tmp 64) rfl rfl rfl rfl rfl Tryz.underlying25 info_intN rfl (by decide) (fun _ => rfl) (fun _ => rfl) How2.out (.int .i64 xv) rfl xv (fun _ => False) Hbf.out (fun _ h => h.elim) (opn ms k + 1 + 1) Hln.out Hrm.out ⟨by decide, by decide⟩ hz1 ?_; intro A7 c7 w7 hown7 hg7)
        go_roundw
        case rel =>
          have hz7 := hg7.out.bel.size
          refine ⟨k + 1, A7, c7, L ++ [xv], hlt, by go_num, by rw [Hopn.out], by omega, Hrow.out.keep hg7.out.bel, Hpush, hown7⟩
        case measure => simp [intOf]; omega
      · have e91 : (m'.name == 91) = false := by simp [h91]
        by_cases h93 : m'.name = 93
        · have e93 : (m'.name == 93) = true := by simp [h93]
          have hpos := Hbal.out.pos k hlt (Hnm.out.trans h93)
          have hpop := hstk.out.pop (Hnm.out.trans h93) hpos
          have hopn : opn ms (k + 1) + 1 = opn ms k := by rw [opn_succ, if_neg (by rw [Hnm.out]; omega), if_pos (Hnm.out.trans h93)]; omega
          have hrow := rows_next (k := k) Ht2.out (fun i => by rw [leftF_brk (.inr (Hnm.out.trans h93))]) (fun i => rfl)
          have hown3 := How2.out.taken (k := opn ms k) (by rw [hstk.out.1]; omega)
          have hnn9 : (0 : Int) ≤ (opn ms k : Int) := Int.natCast_nonneg _
          have hcap2 : opn ms k ≤ cl := by omega
          have Hpop := Lib.hid hpop; clear hpop
          have Hopn := Lib.hid hopn; clear hopn
          have Hrow := Lib.hid hrow; clear hrow
          have Hown3 := Lib.hid hown3; clear hown3
          have Hfz1 := Lib.hid hfz1; clear hfz1
          have Hft := Lib.hid hft; clear hft
          clear h91 h93 Hnm htop
          go_wp2
          go_roundw
          case rel =>
            exact ⟨k + 1, some ⟨ga, 0, none⟩, cl, L.take (opn ms k), hlt, by go_num, by rw [Hopn.out], hz1, Hrow, Hpop, Hown3⟩
          case measure => simp [intOf]; omega
        · have e93 : (m'.name == 93) = false := by simp [h93]
          have n1 : nameAt ms k ≠ 91 := by rw [Hnm.out]; exact h91
          have n3 : nameAt ms k ≠ 93 := by rw [Hnm.out]; exact h93
          have hopn : opn ms (k + 1) = opn ms k := by rw [opn_succ, if_neg n1, if_neg n3]
          have hlf := leftF_else (p := p) n1 n3
          have cL : W1.cell? ⟨gl, k, none⟩ = some (.int .i64 (-1)) := by
            rw [Ht2.out.l.cell k, cellsN_get _ hlt, if_pos rfl]
          have fL := Ht2.out.l.free k
          obtain ⟨xv, hxv⟩ : ∃ xv, befAt p ms k 0 = xv := ⟨_, rfl⟩
          rw [hxv] at hct1 hlf
          have ht3 := Ht2.out.setL k xv
          have how3 := own_set How2.out hgl3 (k := k) (.int .i64 xv)
          have hrow3 := rows_next (k := k) ht3 (fun i => by
            rw [hlf]
            by_cases hik : i = k
            · rw [if_pos hik, if_pos hik]
            · rw [if_neg hik, if_neg hik, if_neg hik]) (fun i => rfl)
          have N1 := Lib.hid n1; clear n1
          have N3 := Lib.hid n3; clear n3
          have Hopn := Lib.hid hopn; clear hopn
          have Hlf := Lib.hid hlf; clear hlf
          have Ht3 := Lib.hid ht3; clear ht3
          have How3 := Lib.hid how3; clear how3
          have Hrow3 := Lib.hid hrow3; clear hrow3
          have Hxv := Lib.hid hxv; clear hxv
          clear h91 h93
          go_upto_region 10 with fail
          generalize hW2 : W1.setCell ⟨gl, k, none⟩ (.int .i64 xv) = W2 at Ht3 How3 Hrow3 ⊢
          clear hW2 q0 hct1 hfz1 cL fL
          obtain ⟨ga', ea, _, hg3', hct2, hfz2, _, _⟩ := How3.out.at htop
          injection ea with ea
          injection ea with ea _ _
          subst ea
          obtain ⟨b', o', D', d', m2, hd', hA', _, q0, q1, hx8', _, _⟩ := (H.out.below Ht3.out.b).getMod hlt
          injection hA' with hA'
          injection hA' with e1 e2 _
          subst e1 e2
          have hmm : m2 = m' := by have h1 := hd.out; rw [hd'.out] at h1; exact (List.cons.inj h1).1
          subst hmm
          clear q1 hd'
          have hz3 : w.heap.size + 2 ≤ W2.heap.size := Ht3.out.sz
          by_cases hig : atF p m2.name < 0
          · have hgn : ign p (nameAt ms k) = false := by unfold ign; rw [Hnm.out, decide_eq_false (by omega)]
            have hput := hstk.out.put N1.out N3.out hgn
            have hset := How3.out.setAt (i := opn ms k) (v := (k : Int)) (fits_i64 (by omega))
            have hcell := hct2
            have hfzo := hfz2 (opn ms k)
            rw [Hxv.out] at hct2 hcell
            have hbz : Below (w.heap.size + 2) W2 (W2.setCell ⟨ga, opn ms k, none⟩ (.int .i64 (k : Int))) := (Below.refl _ _).setCell (by show w.heap.size + 2 ≤ ga; exact hg1) _
            have hsz3 : w.heap.size + 2 ≤ (W2.setCell ⟨ga, opn ms k, none⟩ (.int .i64 (k : Int))).heap.size := by simp [World.setCell]; exact hz3
            have hrow4 := Hrow3.out.keep hbz
            have Hput := Lib.hid hput; clear hput
            have Hset := Lib.hid hset; clear hset
            have Hfz2 := Lib.hid hfz2; clear hfz2
            have Hft := Lib.hid hft; clear hft
            have Hbz := Lib.hid hbz; clear hbz
            have Hrow4 := Lib.hid hrow4; clear hrow4
            clear hgn Hnm htop
            go_wp2_with (go_at_call 45; refine (ixb_calls _ _ _ hx8').mono ?_; rintro e w' ⟨rfl, rfl⟩)
            go_roundw
            case rel => exact ⟨k + 1, some ⟨ga, 0, none⟩, cl, L.set (opn ms k) (k : Int), hlt, by go_num, by rw [Hopn.out], hsz3, Hrow4, Hput, Hset⟩
            case measure => simp [intOf]; omega
          · have hgn : ign p (nameAt ms k) = true := by unfold ign; rw [Hnm.out, decide_eq_true (by omega)]
            have hput := hstk.out.stay N1.out N3.out hgn
            have Hput := Lib.hid hput; clear hput
            have Hfz2 := Lib.hid hfz2; clear hfz2
            have Hft := Lib.hid hft; clear hft
            clear hgn Hnm htop
            go_wp2_with (go_at_call 45; refine (ixb_calls _ _ _ hx8').mono ?_; rintro e w' ⟨rfl, rfl⟩)
            go_roundw
            case rel => exact ⟨k + 1, some ⟨ga, 0, none⟩, cl, L, hlt, by go_num, by rw [Hopn.out], hz3, Hrow3, Hput, How3⟩
            case measure => simp [intOf]; omega
end Go.Proofs.YtpeknefmjdipmaaGreatDoor
