/-
  Layer 10: the walks of through and of the reference's add.
-/
import Derived.Test.YtflojbohcippnaaGa
import Derived.Laws.Rows
namespace Go.Proofs.Ytflojbohcippnaa
open Go.RowKit

theorem div_lt_mul {x y : Int} (hx : 0 < x) (M : Int) : M / x < y ↔ M < x * y := by
  rw [Int.ediv_lt_iff_lt_mul hx, Int.mul_comm]

def addF (n x y : Int) : Int := min (n + x * y) 1000000000000001
/-! ### sums of products -/
/-- element k of x times m, the first j products -/
def dot (x : List Int) (m : List (List Int)) (k : Nat) : Nat → Int
  | 0 => 0
  | j + 1 => dot x m k j + x.getD j 0 * (m.getD j []).getD k 0
def Pos (l : List Int) : Prop := ∀ v ∈ l, 0 ≤ v ∧ v ≤ 1000000000000000
theorem Pos.getD {l : List Int} (h : Pos l) (i : Nat) : 0 ≤ l.getD i 0 ∧ l.getD i 0 ≤ 1000000000000000 := by
  rw [List.getD_eq_getElem?_getD]
  cases e : l[i]? with
  | none => simp
  | some v => exact h v (List.mem_of_getElem? e)
theorem PosM.getD {m : List (List Int)} (h : ∀ r ∈ m, Pos r) (i : Nat) : Pos (m.getD i []) := by
  rw [List.getD_eq_getElem?_getD]
  cases e : m[i]? with
  | none => intro v hv; simp at hv
  | some v => exact h v (List.mem_of_getElem? e)
theorem dot_nonneg {x : List Int} {m : List (List Int)} (hx : Pos x) (hm : ∀ r ∈ m, Pos r) (k : Nat) : ∀ j, 0 ≤ dot x m k j
  | 0 => Int.le_refl _
  | j + 1 => by
    have h1 := dot_nonneg hx hm k j
    have h2 := Int.mul_nonneg (hx.getD j).1 ((PosM.getD hm j).getD k).1
    unfold dot; omega
theorem dot_mono {x : List Int} {m : List (List Int)} (hx : Pos x) (hm : ∀ r ∈ m, Pos r) (k : Nat) {i j : Nat} (hij : i ≤ j) : dot x m k i ≤ dot x m k j := by
  induction hij with
  | refl => exact Int.le_refl _
  | step _ ih =>
    rename_i j _
    have h2 := Int.mul_nonneg (hx.getD j).1 ((PosM.getD hm j).getD k).1
    show dot x m k i ≤ dot x m k j + x.getD j 0 * (m.getD j []).getD k 0
    omega
/-- a row of a product, unless an element is out of range -/
def prodRow (x : List Int) (m : List (List Int)) : Option (List Int) :=
  if (List.range m.length).all (fun k => decide (dot x m k x.length ≤ 1000000000000000)) then some ((List.range m.length).map fun k => dot x m k x.length) else none

theorem getD_of_drop {α : Type} {xs : List α} {i : Nat} {x d : α} {r : List α} (h : xs.drop i = x :: r) : xs.getD i d = x := by
  rw [List.getD_eq_getElem?_getD, get_of_drop h]; rfl

theorem cells12_get (f : Nat → Int) {k : Nat} (hk : k < 12) : (cellsN 12 f)[k]? = some (.int .i64 (f k)) := cellsN_get f hk
theorem info_int64 : (Try.prog.info? 2).map (fun i => (i.zero, i.size, i.bytes)) = some (some (.int .i64 0), 1, 8) := by kernel_rfl

def ThroughPost (xs : List Int) (ys : List (List Int)) (w : World) (e : Ending) (w' : World) : Prop :=
  Below w.heap.size w w' ∧ ((prodRow xs ys = none ∧ e = .returned (.tuple #[.slice none 0 0, .bool false])) ∨
    ∃ r A cap, prodRow xs ys = some r ∧ e = .returned (.tuple #[.slice A r.length cap, .bool true]) ∧ SlAt (pI .i64) (fun k => w.heap.size ≤ k ∧ k < w'.heap.size) w' A cap r)

set_option maxRecDepth 100000 in
set_option maxHeartbeats 1000000 in
theorem through_calls (A B : Option Addr) (cap cap' : Nat) (xs : List Int) (ys : List (List Int)) (w : World) (h : SlAt (pI .i64) (Old w) w A cap xs) (h' : SlAt (pSl (pI .i64)) (Old w) w B cap' ys) (hl : ys.length ≤ 12) (hl2 : xs.length = ys.length)
    (hx : Pos xs) (hy : ∀ r ∈ ys, Pos r) (hy2 : ∀ r ∈ ys, r.length = ys.length) :
    Calls Try.prog 22 #[.slice A xs.length cap, .slice B ys.length cap'] w (ThroughPost xs ys w) := by
  have hmx := h.lenle
  have hmy := h'.lenle
  have H := Lib.hid h; clear h
  have H' := Lib.hid h'; clear h'
  have Hx := Lib.hid hx; clear hx
  have Hy := Lib.hid hy; clear hy
  have Hy2 := Lib.hid hy2; clear hy2
  have Hl2 := Lib.hid hl2; clear hl2
  go_enter Try.func22, Try.ntmps22
  go_wp2
  go_loopw [13] (fun i wr => ∃ k : Nat, k ≤ xs.length ∧ i = .int .i64 k ∧ Below w.heap.size w wr ∧ w.heap.size < wr.heap.size ∧ ∃ f : Nat → Int, Hid (Blk wr w.heap.size 74 (cellsN 12 f)) ∧ Hid (∀ i, i < ys.length → f i = dot xs ys i k ∧ f i ≤ 1000000000000000)) (fun i _ => xs.length - (intOf i).toNat)
  case atStart =>
    exact ⟨0, Nat.zero_le _, rfl, (Below.refl _ _).alloc (Nat.le_refl _) _, by simp, fun _ => 0, Blk.new _ _ _, fun i _ => ⟨rfl, by simp⟩⟩
  case round =>
    obtain ⟨k, hk, rfl, hb, hsz, f, hblk, hf⟩ := hrel
    obtain ⟨wo, rfl⟩ : ∃ wo : World, wo = wr := ⟨_, rfl⟩
    have Hb := Lib.hid hb; clear hb
    by_cases hlt : k < xs.length
    · obtain ⟨b, o, n, hdn, rfl, hob, hcn, _⟩ := (H.out.below Hb.out).getI hlt
      obtain ⟨b2, o2, A2, c2, r, hdr, rfl, hob2, hcr, hrr, hrl⟩ := (H'.out.below Hb.out).getSl (i := k) (by rw [← Hl2.out]; exact hlt)
      have hn0 : 0 ≤ n ∧ n ≤ 1000000000000000 := Hx.out _ (mem_of_drop hdn.out)
      have hlr : r.length = ys.length := Hy2.out _ (mem_of_drop hdr.out)
      have hky : k < ys.length := by rw [← Hl2.out]; exact hlt
      have hry : r.length ≤ 12 := by omega
      have Hlr := Lib.hid hlr; clear hlr
      go_wp2
      go_loopw [23] (fun i wq => ∃ m : Nat, m ≤ r.length ∧ i = .int .i64 m ∧ Hid (Below w.heap.size w wq) ∧ w.heap.size < wq.heap.size ∧ ∃ f : Nat → Int, Hid (Blk wq w.heap.size 74 (cellsN 12 f)) ∧
        Hid (∀ i, i < ys.length → f i = dot xs ys i (if i < m then k + 1 else k) ∧ f i ≤ 1000000000000000)) (fun i _ => r.length - (intOf i).toNat)
      case atStart => exact ⟨0, Nat.zero_le _, rfl, Hb, hsz, f, hblk, fun i hi => by simpa using hf.out i hi⟩
      case round =>
        clear hcn hcr
        obtain ⟨m, hm, rfl, hb2, hsz2, f2, hblk2, hf2⟩ := hrel
        by_cases hlt2 : m < r.length
        · obtain ⟨b3, o3, y, hdy, rfl, hob3, hcy, _⟩ := ((hrr.out).keep (w' := wr) (fun q hq => (hb2.out.block q hq).trans (Hb.out.block q hq).symm)).getI hlt2
          have hy0 : 0 ≤ y ∧ y ≤ 1000000000000000 := Hy.out _ (mem_of_drop hdr.out) _ (mem_of_drop hdy.out)
          have hmy : m < ys.length := by rw [← Hlr.out]; exact hlt2
          have hcs := (hblk2.out.cell m).trans (cells12_get f2 (by omega))
          have hfz := hblk2.out.free m
          have hfm := hf2.out m hmy
          simp only [Nat.lt_irrefl, if_false] at hfm
          have hs0 : 0 ≤ f2 m := by rw [hfm.1]; exact dot_nonneg Hx.out Hy.out m k
          have hs1 := hfm.2
          have Hfm := Lib.hid hfm.1; clear hfm
          have hp0 : 0 ≤ n * y := Int.mul_nonneg hn0.1 hy0.1
          have hstep : dot xs ys m (k + 1) = f2 m + n * y := by
            rw [Hfm.out]; show dot xs ys m k + _ * _ = _
            rw [getD_of_drop hdn.out, getD_of_drop hdr.out, getD_of_drop hdy.out]
          have Hstep := Lib.hid hstep; clear hstep
          have HB := hblk2.out.set m (.int .i64 (f2 m + n * y))
          generalize f2 m = s at hcs hs0 hs1 Hstep HB
          have HB := Lib.hid HB
          by_cases hn1 : 0 < n
          · have hd := div_lt_mul (x := n) (y := y) hn1 (1000000000000000 - s)
            by_cases hov : (1000000000000000 - s) / n < y
            · have hov2 := hd.1 hov
              clear hd
              go_wp2
              go_ret2
              refine ⟨hb2.out, .inl ⟨?_, rfl⟩⟩
              unfold prodRow
              rw [if_neg]
              intro hall
              have h1 := List.all_eq_true.1 hall m (by simpa using hmy)
              have h2 := dot_mono Hx.out Hy.out m (show k + 1 ≤ xs.length by omega)
              have h3 := of_decide_eq_true h1
              rw [Hstep.out] at h2
              omega
            · have hov2 := mt hd.2 hov
              clear hd
              go_wp2
              go_roundw
              case rel =>
                refine ⟨m + 1, by omega, by go_num, hb2.out.setCell (Nat.le_refl _) _, by simpa [World.setCell] using hsz2, _, by rw [cellsN_set] at HB; exact HB, fun i hi => ?_⟩
                by_cases him : i = m
                · subst him
                  simp only [if_pos, Nat.lt_succ_self]
                  exact ⟨Hstep.out.symm, by omega⟩
                · have := hf2.out i hi
                  simp only [him, if_false]
                  by_cases him2 : i < m
                  · rw [if_pos (by omega)]; rwa [if_pos him2] at this
                  · rw [if_neg (by omega)]; rwa [if_neg him2] at this
              case measure => simp [intOf]; omega
          · have hp1 : n * y ≤ 0 := by
              have : n = 0 := by omega
              rw [this, Int.zero_mul]; exact Int.le_refl _
            go_wp2
            go_roundw
            case rel =>
              refine ⟨m + 1, by omega, by go_num, hb2.out.setCell (Nat.le_refl _) _, by simpa [World.setCell] using hsz2, _, by rw [cellsN_set] at HB; exact HB, fun i hi => ?_⟩
              by_cases him : i = m
              · subst him
                simp only [if_pos, Nat.lt_succ_self]
                exact ⟨Hstep.out.symm, by omega⟩
              · have := hf2.out i hi
                simp only [him, if_false]
                by_cases him2 : i < m
                · rw [if_pos (by omega)]; rwa [if_pos him2] at this
                · rw [if_neg (by omega)]; rwa [if_neg him2] at this
            case measure => simp [intOf]; omega
        · obtain rfl : m = r.length := by omega
          go_wp2
          go_roundw
          case rel =>
            refine ⟨k + 1, by omega, by go_num, hb2.out, hsz2, f2, hblk2, fun i hi => ?_⟩
            have := hf2.out i hi
            rwa [if_pos (by rw [Hlr.out]; exact hi)] at this
          case measure => simp [intOf]; omega
    · obtain rfl : k = xs.length := by omega
      have hlx : xs.length ≤ 12 := by rw [Hl2.out]; exact hl
      have hsl := fun (wx : World) => run_slice_arr (P := Try.prog) (t := 74) Try.underlying74 (s := 1) (by kernel_rfl) ⟨w.heap.size, 0, none⟩ hlx wx
      go_wp2_with (at_builtin; refine wpList_app (E := pI .i64) (v := .slice none 0 0) (xs := []) (base := w.heap.size) (G := (w.heap.size ≤ ·)) 27 2 (.int .i64 0) 8 rfl _ _ rfl Try.underlying27 info_int64 rfl (by decide) rfl Own.nil _ _ _ rfl ((List.range ys.length).map fun i => Value.int .i64 (f i)) ((List.range ys.length).map f) ?c1 (fun k => k < 0) ?c2 ?c3 ?c4 ?c5 ?c6 ?c7 ?_; rotate_right; intro v1 w1 hown1 hg1 hat1)
      case c1 => simp [Hl2.out]
      case c2 =>
        have := cellsAre_ints (F := fun k => k < 0) (w := wo) (k := .i64) (xs := (List.range ys.length).map f) (fun x hx => by
          obtain ⟨i, hi, rfl⟩ := List.mem_map.1 hx
          have h1 := hf.out i (by simpa using hi)
          have h2 := dot_nonneg Hx.out Hy.out i xs.length
          exact fits_i64 (by omega))
        rwa [List.map_map] at this
      case c3 =>
        intro j u hu
        have hj : j < ys.length := by
          have := (List.getElem?_eq_some_iff.1 hu).1
          simpa using this
        rw [add_lit', Nat.zero_add, hblk.out.cell, cells12_get f (by omega)]
        simpa [hj] using hu
      case c4 => intro k hk0; exact absurd hk0 (Nat.not_lt_zero _)
      case c5 => simp; omega
      case c6 => decide
      case c7 => exact Nat.le_of_lt hsz
      go_ret2
      have hpr : prodRow xs ys = some ((List.range ys.length).map f) := by
        unfold prodRow
        rw [if_pos]
        · congr 1
          exact List.map_congr_left fun i hi => ((hf.out i (by simpa using hi)).1).symm
        · rw [List.all_eq_true]
          intro i hi
          have := hf.out i (by simpa using hi)
          rw [← this.1]; exact decide_eq_true this.2
      have hbw : Below w.heap.size w w1 := Hb.out.grown hg1 (Nat.le_of_lt hsz) (by simp [Value.ownBlock])
      obtain ⟨A1, c1, hv1, hs1⟩ := hown1.fresh
      subst hv1
      exact ⟨hbw, .inr ⟨_, A1, c1, hpr, rfl, hs1⟩⟩

end Go.Proofs.Ytflojbohcippnaa
