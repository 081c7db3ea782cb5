/-
  Layer 5: the walks of both Orders.
-/
import Derived.Test.YtcdmmejicmbagaaDoorTj
import Derived.RegionTactic
import Derived.BigRegion
import Derived.ChangeAlike
import Derived.Test.YtcdmmejicmbagaaDoorOwn
namespace Go.Proofs.YtcdmmejicmbagaaDoor
open Go.RowKit Go.Sort
set_option linter.unusedVariables false

def GAt (w : World) : Prop := ∃ g, Tryd.prog.globalNamed "internal/strconv.uint64pow10" = some g ∧ g < w.heap.size
theorem GAt.later {w w' : World} {B : Nat} (h : GAt w) (hb : Below B w w') : GAt w' := by
  obtain ⟨g, h1, h2⟩ := h
  exact ⟨g, h1, Nat.lt_of_lt_of_le h2 hb.size⟩
def OrderPost (l : List Int) (w : World) (e : Ending) (w' : World) : Prop := ∃ A c, e = .returned (.tuple #[.slice A l.length c, .int .i64 0]) ∧ Below w.heap.size w w' ∧ Hid (SlAt (pI .i64) (Old w') w' A c l)
theorem info_intT : (Tryd.prog.info? 3).map (fun i => (i.zero, i.size, i.bytes)) = some (some (.int .i64 0), 1, 8) := by kernel_rfl
theorem cellsO_get {n : Nat} {f : Nat → Nat} {k : Nat} (hk : k < n) : (cellsO n f)[k]? = some (.int .i64 (f k : Int)) := cellsN_get _ hk

set_option maxRecDepth 100000 in
set_option maxHeartbeats 4000000 in
theorem order_calls (s : Int) (p : ByteArray) (n : Nat) (w : World) (hs : Fits .i64 s) (hp : p.size ≤ 500) (hn : n ≤ 200) (h0 : 0 < n) (ht : TabAt w) (hg : GAt w) :
    Calls Tryd.prog 11 #[.int .i64 s, .string p, .int .i64 n] w (OrderPost (orderL s p n) w) := by
  have hmk := fun (wx : World) => run_make_row' (P := Tryd.prog) 22 3 (.int .i64 0) 8 Tryd.underlying22 info_intT rfl .i64 .i64 n (by omega) (by omega) wx
  simp only [cellsN_made] at hmk
  have Ht := Lib.hid ht; clear ht
  have Hg := Lib.hid hg; clear hg
  have Hs := Lib.hid hs; clear hs
  go_enter Tryd.func11, Tryd.ntmps11
  go_wp2
  go_loopw [27] (fun i wr => ∃ k : Nat, k ≤ n ∧ i = .int .i64 k ∧ Hid (Below w.heap.size w wr) ∧ w.heap.size < wr.heap.size ∧ Hid (Blk wr w.heap.size 3 (cellsN n fun j => if j < k then (j : Int) else 0))) (fun i _ => n - (intOf i).toNat)
  case atStart => exact ⟨0, Nat.zero_le _, rfl, (Below.refl _ _).alloc (Nat.le_refl _) _, by simp, Blk.new _ _ _⟩
  case round =>
    obtain ⟨k, hk, rfl, hb, hsz, hbl⟩ := hrel
    by_cases hlt : k < n
    · have hc := (hbl.out.cell k).trans (cellsN_get _ hlt)
      rw [if_neg (Nat.lt_irrefl _)] at hc
      have hf := hbl.out.free k
      have hset := hbl.out.set k (.int .i64 (k : Int))
      rw [cellsN_set] at hset
      have hset2 : Blk (wr.setCell ⟨w.heap.size, k, none⟩ (.int .i64 (k : Int))) w.heap.size 3 (cellsN n fun j => if j < k + 1 then (j : Int) else 0) := by
        have e : (fun j : Nat => if j = k then (k : Int) else if j < k then (j : Int) else 0) = (fun j => if j < k + 1 then (j : Int) else 0) := by
          funext j
          by_cases h1 : j = k
          · subst h1; simp
          · by_cases h2 : j < k
            · rw [if_neg h1, if_pos h2, if_pos (by omega)]
            · rw [if_neg h1, if_neg h2, if_neg (by omega)]
        rw [← e]; exact hset
      have Hset2 := Lib.hid hset2; clear hset2
      clear hset
      go_wp2
      go_roundw
      case rel => exact ⟨k + 1, by omega, by go_num, hb.out.setCell (Nat.le_refl _) _, by simpa [World.setCell] using hsz, Hset2⟩
      case measure => simp [intOf]; omega
    · obtain rfl : k = n := by omega
      obtain ⟨wo, rfl⟩ : ∃ wo : World, wo = wr := ⟨_, rfl⟩
      have hblo : Blk wo w.heap.size 3 (cellsO k fun j => j) := by
        have := hbl.out
        unfold cellsO
        have e : ∀ j, j < k → (if j < k then (j : Int) else 0) = ((j : Nat) : Int) := fun j hj => if_pos hj
        have e2 : (cellsN k fun j => if j < k then (j : Int) else 0) = cellsN k fun j => (j : Int) := by
          unfold cellsN
          congr 1
          exact List.map_congr_left fun j hj => congrArg (Value.int .i64) (e j (List.mem_range.1 hj))
        rwa [e2] at this
      have hpm : Perm k (fun j => j) := ⟨fun j hj => hj, fun a b _ _ h => h⟩
      have hk1 : ((k : Int) - 1) = ((k - 1 : Nat) : Int) := by omega
      have Hblo := Lib.hid hblo; clear hblo
      have Hpm := Lib.hid hpm; clear hpm
      have Hk1 := Lib.hid hk1; clear hk1
      clear hlt hk hbl
      go_wp2
      rw [Hk1.out]
      go_loopw [11] (fun i wr => ∃ m : Nat, m < k ∧ i = .int .i64 m ∧ Hid (Below w.heap.size w wr) ∧ w.heap.size < wr.heap.size ∧ ∃ f, Hid (Blk wr w.heap.size 3 (cellsO k f)) ∧ Hid (Perm k f) ∧ Hid (ordN s p k = ordF s p m f)) (fun i _ => (intOf i).toNat)
      case atStart => exact ⟨k - 1, by omega, rfl, hb, hsz, _, Hblo, Hpm, rfl⟩
      case round =>
        obtain ⟨m, hm, rfl, hb2, hsz2, f, hbl2, hpm2, hord⟩ := hrel
        obtain ⟨wp, rfl⟩ : ∃ wp : World, wp = wr := ⟨_, rfl⟩
        by_cases hpos : 0 < m
        · have hcall := place_calls s p m wp Hs.out hp (by omega) (Ht.out.later hb2.out Hg.out) (Hg.out.later hb2.out)
          have Hcall := Lib.hid hcall; clear hcall
          go_wp2_with fail
          refine Hcall.out.mono ?_
          rintro e w3 ⟨rfl, hb3⟩
          have hqe := placeN_eq s p m
          have hqm := placeN_le s p m
          obtain ⟨q, hq⟩ : ∃ q, placeN s p m = q := ⟨_, rfl⟩
          rw [hq] at hqe hqm
          rw [hqe]
          have hbw : Below w.heap.size w w3 := hb2.out.trans (hb3.mono (by omega))
          have hsz3 : w.heap.size < w3.heap.size := Nat.lt_of_lt_of_le hsz2 hb3.size
          have hbl3 := hbl2.out.same (hb3.block _ hsz2)
          have hqk : q < k := by omega
          have hq0 : (0 : Int) ≤ (q : Int) := Int.natCast_nonneg _
          have hq1 : (q : Int) < (k : Int) := by omega
          have hci := (hbl3.cell m).trans (cellsO_get hm)
          have hcq := (hbl3.cell q).trans (cellsO_get hqk)
          have hfi := hbl3.free m
          have hfq := hbl3.free q
          have hset := (hbl3.set m (.int .i64 (f q : Int))).set q (.int .i64 (f m : Int))
          rw [cellsO_swap] at hset
          have hpm3 := perm_swp hpm2.out hm hqk
          have hord2 : ordN s p k = ordF s p (m - 1) (swp f m q) := by
            obtain ⟨m', rfl⟩ : ∃ m', m = m' + 1 := ⟨m - 1, by omega⟩
            rw [hord.out, ← hq]; rfl
          have hbs : Below w.heap.size w ((w3.setCell ⟨w.heap.size, m, none⟩ (.int .i64 (f q : Int))).setCell ⟨w.heap.size, q, none⟩ (.int .i64 (f m : Int))) := (hbw.setCell (Nat.le_refl _) _).setCell (Nat.le_refl _) _
          have Hqe := Lib.hid hqe; clear hqe
          have Hbw := Lib.hid hbw; clear hbw
          have Hbl3 := Lib.hid hbl3; clear hbl3
          have Hset := Lib.hid hset; clear hset
          have Hpm3 := Lib.hid hpm3; clear hpm3
          have Hbs := Lib.hid hbs; clear hbs
          have Hq := Lib.hid hq; clear hq
          have Hord2 := Lib.hid hord2; clear hord2
          clear hb3
          by_cases hqm2 : q = m
          · subst hqm2
            go_wp2
            go_region
            go_wp2
            go_roundw
            case rel => exact ⟨q - 1, by omega, by go_num, below_drew Hbs.out, by simpa [World.setCell] using hsz3, _, Hset.out.same rfl, Hpm3, Hord2⟩
            case measure => simp [intOf]; omega
          · go_wp2
            go_region
            go_wp2
            go_roundw
            case rel => exact ⟨m - 1, by omega, by go_num, below_drew Hbs.out, by simpa [World.setCell] using hsz3, _, Hset.out.same rfl, Hpm3, Hord2⟩
            case measure => simp [intOf]; omega
        · obtain rfl : m = 0 := by omega
          have hfin : Blk wp w.heap.size 3 (cellsO k (ordN s p k)) := by rw [hord.out]; exact hbl2.out
          have hsl := order_sl (F := Old wp) hfin hsz2 hn
          have hll := orderL_length s p k
          have Hsl := Lib.hid hsl; clear hsl
          have Hll := Lib.hid hll; clear hll
          clear hfin
          go_wp2
          go_ret2
          exact ⟨some ⟨w.heap.size, 0, none⟩, k, by rw [Hll.out]; rfl, hb2.out, Hsl⟩
end Go.Proofs.YtcdmmejicmbagaaDoor
