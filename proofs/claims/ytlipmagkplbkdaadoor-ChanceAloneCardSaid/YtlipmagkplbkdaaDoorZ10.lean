/- Texts of the proof that the statement of ChanceAlone holds, several in one. -/
import Derived.Test.YtlipmagkplbkdaaDoorProg
import Derived.Test.YtlipmagkplbkdaaDoorZ4
import Derived.Laws.IdiomStrings
import Derived.OpenShut
import Derived.Test.YtlipmagkplbkdaaDoorZ6
import Derived.Test.YtlipmagkplbkdaaDoorZ9
set_option linter.unusedVariables false
set_option linter.unusedSimpArgs false
set_option linter.unusedSectionVars false
set_option maxRecDepth 100000
set_option maxHeartbeats 8000000
namespace Go.Proofs.YtlipmagkplbkdaaDoor
section
open Go.RowKit
def ofStep (h : Int) (b : UInt8) : Int := IntKind.u64.wrap (bits .xor .u64 h (IntKind.u64.wrap (b.toNat : Int)) * 1099511628211)
def ofStart (s : Int) : Int := bits .xor .u64 (IntKind.u64.wrap s) 11400714819323198485
def ofEnd (x : Int) : Int :=
 bits .xor .u64
  (IntKind.u64.wrap (bits .xor .u64 (IntKind.u64.wrap (bits .xor .u64 x (x / 1073741824) * 13787848793156543929)) (IntKind.u64.wrap (bits .xor .u64 x (x / 1073741824) * 13787848793156543929) / 134217728) * 10723151780598845931))
  (IntKind.u64.wrap (bits .xor .u64 (IntKind.u64.wrap (bits .xor .u64 x (x / 1073741824) * 13787848793156543929)) (IntKind.u64.wrap (bits .xor .u64 x (x / 1073741824) * 13787848793156543929) / 134217728) * 10723151780598845931) / 2147483648)
def ofFold (s : Int) (p : ByteArray) : Int := p.data.toList.foldl ofStep (ofStart s)
def ofF (s : Int) (p : ByteArray) : Int := ofEnd (ofFold s p)
theorem ofF_range (s : Int) (p : ByteArray) : 0 <= ofF s p /\ ofF s p <= 18446744073709551615 := by
 have := wf_bits .xor .u64 (IntKind.u64.wrap (bits .xor .u64 (IntKind.u64.wrap (bits .xor .u64 (ofFold s p) (ofFold s p / 1073741824) * 13787848793156543929)) (IntKind.u64.wrap (bits .xor .u64 (ofFold s p) (ofFold s p / 1073741824) * 13787848793156543929) / 134217728) * 10723151780598845931))
  (IntKind.u64.wrap (bits .xor .u64 (IntKind.u64.wrap (bits .xor .u64 (ofFold s p) (ofFold s p / 1073741824) * 13787848793156543929)) (IntKind.u64.wrap (bits .xor .u64 (ofFold s p) (ofFold s p / 1073741824) * 13787848793156543929) / 134217728) * 10723151780598845931) / 2147483648)
 simpa [ofF, ofEnd, Lit.wf, IntKind.min, IntKind.max, IntKind.signed, IntKind.bits] using this
theorem drop_bytes {p : ByteArray} {k : Nat} (h : k < p.size) : p.data.toList.drop k = p[k] :: p.data.toList.drop (k + 1) := by
 have hk : k < p.data.toList.length := by simpa using h
 rw [List.drop_eq_getElem_cons hk]
 rfl
theorem bytes_conv (w : World) (p : ByteArray) : ∃ wb cap, (convert 9 126 (.string p)).run Tryd.prog w = .ok (.slice (some ⟨w.heap.size, 0, none⟩) p.size cap) wb /\ Below w.heap.size w wb /\
  ∀ (i : Nat) (h : i < p.size), wb.cell? ⟨w.heap.size, i, none⟩ = some (.int .u8 (p[i].toNat : Int)) := by
 refine ⟨_, _, run_bytes_of_string w 9 126 5 p Tryd.underlying9 Tryd.underlying126 Tryd.underlying5, ?_, ?_⟩
 ·exact (Below.refl w.heap.size w.drew |> fun h => (show Below w.heap.size w w.drew from ⟨rfl, rfl, rfl, Nat.le_refl _, fun _ _ => rfl⟩).alloc (Nat.le_refl _) _)
 ·intro i hi
  have hget : (bytesRow p (grownCap w p.size 0 5))[i]? = some (.int .u8 (p[i].toNat : Int)) := by
   unfold bytesRow
   rw [Array.getElem?_append_left (by simpa using hi)]
   simp [Array.getElem?_eq_getElem (show i < p.data.size from hi)]
   rfl
  rw [<- hget]
  exact cell_of_row _ w.heap.size i _ _ _ (heap_alloc_new w.drew _)
theorem of_calls (s : Int) (p : ByteArray) (w : World) (hs : Fits .i64 s) (hp : p.size <= 500) :
  Calls Tryd.prog 85 #[.int .i64 s, .string p] w (U64Post (ofF s p) w) := by
 have hs' := hs.i64
 obtain ⟨wb, cap, hcv, hb, hcells⟩ := bytes_conv w p
 obtain ⟨Hcells, Hb⟩ := HH2 hcells hb; clear hcells hb
 go_enter Tryd.func85, Tryd.ntmps85
 go_wp2
 go_loop [14, 5] (fun i h => ∃ k : Nat, k <= p.size /\ i = .int .i64 k /\ ∃ x : Int, h = .int .u64 x /\ Hid (ofFold s p = (p.data.toList.drop k).foldl ofStep x)) (fun i _ => p.size - (intOf i).toNat)
 case atStart => exact ⟨0, Nat.zero_le _, rfl, _, rfl, rfl⟩
 case round =>
  obtain ⟨k, hk, rfl, x, rfl, hf⟩ := hrel
  by_cases hlt : k < p.size
  ·have hc := Hcells.out k hlt
   go_wp2
   go_round
   case rel =>
    refine ⟨k + 1, by omega, by go_num, _, rfl, ?_⟩
    unfold Hid; rw [hf.out, drop_bytes hlt]; rfl
   case measure => simp [intOf]; omega
  ·have hx : ofFold s p = x := by rw [hf.out, List.drop_eq_nil_of_le (by simpa using hlt)]; rfl
   have Hx := HH1 hx; clear hx
   go_wp2
   go_ret
   exact ⟨ret_u64 (by unfold ofF; rw [Hx.out]; rfl), Hb.out⟩
end
section
open Go.RowKit
def allW (l : List Int) : Bool := l.all (fun x => decide (0 <= x) && decide (x <= 1000000000))
def sumW (l : List Int) : Int := if 200 < l.length then 0 else if allW l then (if 1000000000 < l.sum then 0 else l.sum) else 0
theorem sum_le (l : List Int) (h : allW l = true) : 0 <= l.sum /\ l.sum <= l.length * 1000000000 := by
 induction l with
 | nil => simp
 | cons x l ih =>
  simp only [allW, List.all_cons, Bool.and_eq_true, decide_eq_true_eq] at h
  have := ih h.2
  simp only [List.sum_cons, List.length_cons]
  omega
end
section
open Go.RowKit
def pickIx : Int -> List Int -> Nat -> Option Nat
 | _, [], _ => none
 | r, x :: l, i => if r < x then some i else pickIx (r - x) l (i + 1)
def pickF (l : List Int) (h : Int) : Int × Int := if sumW l = 0 then (0, 2) else match pickIx (h % sumW l) l 0 with
 | some i => ((i : Int), 0)
 | none => (0, 2)
theorem pickIx_some : ∀ (l : List Int) (r : Int) (i : Nat), 0 <= r -> r < l.sum -> pickIx r l i ≠ none
 | [], r, i, h0, h => by simp at h; omega
 | x :: l, r, i, h0, h => by
  unfold pickIx
  split
  ·simp
  ·exact pickIx_some l (r - x) (i + 1) (by omega) (by rw [List.sum_cons] at h; omega)
theorem more_calls (x S : Int) (g : Nat) (w : World) (hc : w.cell? ⟨g, 0, none⟩ = some (.int .i64 S)) (hf : w.frozen? ⟨g, 0, none⟩ = false) (hx : Fits .i64 x) (hx1 : x <= 1000000000) (hS : 0 <= S /\ S <= 1000000000) :
  Calls Tryd.prog 99 #[.int .i64 x, .pointer (some ⟨g, 0, none⟩)] w fun e w' => e = .returned (.bool (decide (0 <= x) && decide (S + x <= 1000000000))) /\ w' = w.setCell ⟨g, 0, none⟩ (.int .i64 (S + x)) := by
 have hx' := hx.i64
 have hset : (w.setCell ⟨g, 0, none⟩ (.int .i64 (S + x))).cell? ⟨g, 0, none⟩ = some (.int .i64 (S + x)) := World.cell?_setCell_same _ _ _ hc
 by_cases h0 : x < 0
 ·go_enter Tryd.func99, Tryd.ntmps99
  go_wp2
  go_ret
  exact ⟨by rw [show decide (0 <= x) = false from by simp; omega]; rfl, rfl⟩
 ·go_enter Tryd.func99, Tryd.ntmps99
  go_wp2
  go_ret
  exact ⟨rfl, rfl⟩
theorem pick_calls (A : Option Addr) (c : Nat) (l : List Int) (h : Int) (w : World) (hl : SlAt (pI .i64) (Old w) w A c l) (hh : 0 <= h /\ h <= 18446744073709551615) :
  Calls Tryd.prog 84 #[.slice A l.length c, .int .u64 h] w (PairPost (pickF l h) w) := by
 have hmx := hl.lenle
 have H := HH1 hl; clear hl
 by_cases hbig : 200 < l.length
 ·go_enter Tryd.func84, Tryd.ntmps84
  go_wp2
  go_ret2
  exact ⟨by unfold pickF sumW; rw [if_pos hbig]; rfl, Below.refl _ _⟩
 ·have hle : l.length <= 200 := by omega
  have Hbig := HH1 hbig; clear hbig
  have hb0 : Below w.heap.size w (w.alloc (.cells #[.int .i64 0] 3)) := (Below.refl _ _).alloc (Nat.le_refl _) _
  have hblk0 := (Blk.new w 3 #[.int .i64 0])
  have hc0 : (w.alloc (.cells #[.int .i64 0] 3)).cell? ⟨w.heap.size, 0, none⟩ = some (.int .i64 0) := (hblk0.cell 0).trans rfl
  have hf0 : (w.alloc (.cells #[.int .i64 0] 3)).frozen? ⟨w.heap.size, 0, none⟩ = false := hblk0.free 0
  have Hb0 := HH1 hb0; have Hc0 := HH1 hc0; have Hf0 := HH1 hf0
  clear hb0 hblk0 hc0 hf0
  go_enter Tryd.func84, Tryd.ntmps84
  go_wp2
  go_loopw [19] (fun i wr => ∃ k : Nat, k <= l.length /\ i = .int .i64 k /\ Hid (Below w.heap.size w wr) /\ ∃ S : Int, wr.cell? ⟨w.heap.size, 0, none⟩ = some (.int .i64 S) /\ wr.frozen? ⟨w.heap.size, 0, none⟩ = false /\ Hid (allW l = allW (l.drop k)) /\ Hid (l.sum = S + (l.drop k).sum) /\ 0 <= S /\ S <= 1000000000) (fun i _ => l.length - (intOf i).toNat)
  case atStart => exact ⟨0, Nat.zero_le _, rfl, Hb0, 0, Hc0.out, Hf0.out, rfl, by unfold Hid; simp, by omega, by omega⟩
  case round =>
   obtain ⟨k, hk, rfl, hb, S, hc, hf, hall, hsum, hS0, hS1⟩ := hrel
   obtain ⟨wo, rfl⟩ : ∃ wo : World, wo = wr := ⟨_, rfl⟩
   clear Hb0 Hc0 Hf0
   by_cases hlt : k < l.length
   ·obtain ⟨b, o, x, hd, rfl, hob, hcx, hfx⟩ := (H.out.below hb.out).getI hlt
    have hx' := hfx.i64
    by_cases hx1 : 1000000000 < x
    ·have hsw : sumW l = 0 := by
      unfold sumW; rw [if_neg Hbig.out, if_neg]
      rw [hall.out, hd.out]; simp [allW]; omega
     have Hsw := HH1 hsw; clear hsw
     go_wp2
     go_ret2
     exact ⟨by unfold pickF; rw [if_pos Hsw.out]; rfl, hb.out⟩
    ·have hm := more_calls x S w.heap.size wo hc hf hfx (by omega) ⟨hS0, hS1⟩
     have hc2 : (wo.setCell ⟨w.heap.size, 0, none⟩ (.int .i64 (S + x))).cell? ⟨w.heap.size, 0, none⟩ = some (.int .i64 (S + x)) := World.cell?_setCell_same _ _ _ hc
     have hf2 : (wo.setCell ⟨w.heap.size, 0, none⟩ (.int .i64 (S + x))).frozen? ⟨w.heap.size, 0, none⟩ = false := by rw [World.frozen?_setCell]; exact hf
     have hb2 : Below w.heap.size w (wo.setCell ⟨w.heap.size, 0, none⟩ (.int .i64 (S + x))) := hb.out.setCell (Nat.le_refl _) _
     have Hc2 := HH1 hc2; have Hf2 := HH1 hf2; have Hb2 := HH1 hb2
     clear hc2 hf2 hb2
     by_cases hy : 0 <= x /\ S + x <= 1000000000
     ·rw [show (decide (0 <= x) && decide (S + x <= 1000000000)) = true from by simp; exact hy] at hm
      have Hm := HH1 hm; clear hm
      obtain ⟨wn, hwn⟩ : ∃ wn : World, wn = wo.setCell ⟨w.heap.size, 0, none⟩ (.int .i64 (S + x)) := ⟨_, rfl⟩
      rw [<- hwn] at Hc2 Hf2 Hb2 Hm
      have Hwn := HH1 hwn; clear hwn
      go_wp2_with (go_at_call 99; refine Hm.out.mono ?_; rintro e w' ⟨rfl, rfl⟩)
      go_roundw
      case rel =>
       refine ⟨k + 1, by omega, by go_num, Hb2, S + x, Hc2.out, Hf2.out, ?_, ?_, by omega, by omega⟩
       ·unfold Hid; rw [hall.out, hd.out]
        have : (decide (0 <= x) && decide (x <= 1000000000)) = true := by simp; omega
        simp only [allW, List.all_cons, this, Bool.true_and]
       ·unfold Hid; rw [hsum.out, hd.out, List.sum_cons]; omega
      case measure => simp [intOf]; omega
     ·rw [show (decide (0 <= x) && decide (S + x <= 1000000000)) = false from by simp; omega] at hm
      have Hm := HH1 hm; clear hm
      have hsw : sumW l = 0 := by
       unfold sumW
       rw [if_neg Hbig.out]
       split
       ·rename_i ha
        rw [hall.out, hd.out] at ha
        simp only [allW, List.all_cons, Bool.and_eq_true, decide_eq_true_eq] at ha
        have h3 := sum_le (l.drop (k + 1)) ha.2
        rw [if_pos]
        rw [hsum.out, hd.out, List.sum_cons]; omega
       ·rfl
      have Hsw := HH1 hsw; clear hsw hy
      go_wp2_with (go_at_call 99; refine Hm.out.mono ?_; rintro e w' ⟨rfl, rfl⟩)
      go_ret2
      exact ⟨by unfold pickF; rw [if_pos Hsw.out]; rfl, Hb2.out⟩
   ·have hs : l.sum = S := by rw [hsum.out, drop_end hlt]; simp
    have ha : allW l = true := by rw [hall.out, drop_end hlt]; rfl
    have hsw : sumW l = S := by unfold sumW; rw [if_neg Hbig.out, if_pos ha, hs, if_neg (by omega)]
    have Hsw := HH1 hsw
    have Ha := HH1 ha
    clear hs ha hsw hall hsum
    by_cases hz : S = 0
    ·subst hz
     go_wp2
     go_ret2
     exact ⟨by unfold pickF; rw [if_pos Hsw.out]; rfl, hb.out⟩
    ·have hw : IntKind.u64.wrap S = S := by rw [IntKind.wrap_u64]; omega
     have hr1 := Int.emod_nonneg h hz
     have hr2 := Int.emod_lt_of_pos h (show 0 < S by omega)
     obtain ⟨r0, hr0⟩ : ∃ r0, h % S = r0 := ⟨_, rfl⟩
     rw [hr0] at hr1 hr2
     have hp : pickF l h = match pickIx r0 l 0 with | some i => ((i : Int), 0) | none => (0, 2) := by unfold pickF; rw [if_neg (by rw [Hsw.out]; exact hz), Hsw.out, hr0]
     have Hp := HH1 hp; clear hp
     go_wp2
     go_loop [41, 10] (fun i r => ∃ j : Nat, j <= l.length /\ i = .int .i64 j /\ ∃ r1 : Int, r = .int .i64 r1 /\ 0 <= r1 /\ r1 <= 1000000000 /\ Hid (pickIx r0 l 0 = pickIx r1 (l.drop j) j)) (fun i _ => l.length - (intOf i).toNat)
     case atStart => exact ⟨0, Nat.zero_le _, rfl, r0, rfl, hr1, by omega, rfl⟩
     case round =>
      obtain ⟨j, hj, rfl, r1, rfl, h10, h11, hpk⟩ := hrel
      by_cases hlt2 : j < l.length
      ·obtain ⟨b, o, x, hd, rfl, hob, hcx, hfx⟩ := (H.out.below hb.out).getI hlt2
       have hxa : 0 <= x /\ x <= 1000000000 := by
        have := List.all_eq_true.1 Ha.out x (mem_of_drop hd.out)
        simpa using this
       by_cases hrx : r1 < x
       ·have hq : pickF l h = ((j : Int), 0) := by rw [Hp.out, hpk.out, hd.out]; unfold pickIx; rw [if_pos hrx]
        have Hq := HH1 hq; clear hq
        go_wp2
        go_ret2
        exact ⟨by rw [Hq.out]; rfl, hb.out⟩
       ·go_wp2
        go_round
        case rel =>
         refine ⟨j + 1, by omega, by go_num, r1 - x, rfl, by omega, by omega, ?_⟩
         unfold Hid; rw [hpk.out, hd.out]; conv => lhs; unfold pickIx
         rw [if_neg (by omega)]
        case measure => simp [intOf]; omega
      ·have hq : pickF l h = (0, 2) := by rw [Hp.out, hpk.out, drop_end hlt2]; rfl
       have Hq := HH1 hq; clear hq
       go_wp2
       go_ret2
       exact ⟨by rw [Hq.out]; rfl, hb.out⟩
end
section
open Go.RowKit
def chooseF (s : Int) (p : ByteArray) (l : List Int) : Int × Int := pickF l (ofF s p)
theorem choose_calls (s : Int) (p : ByteArray) (A : Option Addr) (c : Nat) (l : List Int) (w : World) (hs : Fits .i64 s) (hp : p.size <= 500) (hl : SlAt (pI .i64) (Old w) w A c l) :
  Calls Tryd.prog 69 #[.int .i64 s, .string p, .slice A l.length c] w (PairPost (chooseF s p l) w) := by
 have H := HH1 hl; clear hl
 go_enter Tryd.func69, Tryd.ntmps69
 go_wp2_with fail
 refine (of_calls s p w hs hp).mono ?_
 rintro e w1 ⟨rfl, hb1⟩
 have H1 := HH1 (H.out.later hb1)
 have hz1 := hb1.size
 have Hb1 := HH1 hb1; clear hb1
 go_wp2_with fail
 refine (pick_calls A c l (ofF s p) w1 H1.out (ofF_range s p)).mono ?_
 rintro e w2 ⟨rfl, hb2⟩
 have Hb2 := HH1 (Hb1.out.trans (hb2.mono hz1)); clear hb2
 go_wp2
 go_ret2
 exact ⟨rfl, Hb2.out⟩
end
section
open Go.RowKit
def fitP (m : Mod) (rs : List Rul) : List (Rul × Nat) := rs.zipIdx.filter fun p => fitsF p.1 m
def fitW (m : Mod) (rs : List Rul) : List Int := (fitP m rs).map fun p => p.1.weight
def fitI (m : Mod) (rs : List Rul) : List Int := (fitP m rs).map fun p => (p.2 : Int)
theorem fitP_snoc (m : Mod) {rs : List Rul} {k : Nat} {r : Rul} (h : rs[k]? = some r) : fitP m (rs.take (k + 1)) = fitP m (rs.take k) ++ if fitsF r m = true then [(r, k)] else [] := by
 have hk := (List.getElem?_eq_some_iff.1 h).1
 unfold fitP
 rw [List.take_add_one, h, List.zipIdx_append, List.filter_append]
 congr 1
 simp only [Option.toList_some, List.length_take, Nat.zero_add, List.zipIdx_cons, List.zipIdx_nil]
 rw [show min k rs.length = k by omega]
 by_cases hf : fitsF r m = true
 ·simp [hf]
 ·simp [hf]
theorem fitW_yes {m : Mod} {rs : List Rul} {k : Nat} {r : Rul} (h : rs[k]? = some r) (hf : fitsF r m = true) : fitW m (rs.take (k + 1)) = fitW m (rs.take k) ++ [r.weight] := by
 unfold fitW; rw [fitP_snoc m h, if_pos hf]; simp
theorem fitI_yes {m : Mod} {rs : List Rul} {k : Nat} {r : Rul} (h : rs[k]? = some r) (hf : fitsF r m = true) : fitI m (rs.take (k + 1)) = fitI m (rs.take k) ++ [(k : Int)] := by
 unfold fitI; rw [fitP_snoc m h, if_pos hf]; simp
theorem fitW_no {m : Mod} {rs : List Rul} {k : Nat} {r : Rul} (h : rs[k]? = some r) (hf : fitsF r m = false) : fitW m (rs.take (k + 1)) = fitW m (rs.take k) := by
 unfold fitW; rw [fitP_snoc m h, if_neg (by rw [hf]; decide)]; simp
theorem fitI_no {m : Mod} {rs : List Rul} {k : Nat} {r : Rul} (h : rs[k]? = some r) (hf : fitsF r m = false) : fitI m (rs.take (k + 1)) = fitI m (rs.take k) := by
 unfold fitI; rw [fitP_snoc m h, if_neg (by rw [hf]; decide)]; simp
theorem fitP_le (m : Mod) (rs : List Rul) : (fitP m rs).length <= rs.length := by
 unfold fitP; have := List.length_filter_le (fun p : Rul × Nat => fitsF p.1 m) rs.zipIdx; simpa using this
theorem fitW_len (m : Mod) (rs : List Rul) : (fitW m rs).length = (fitP m rs).length := by unfold fitW; simp
theorem fitI_len (m : Mod) (rs : List Rul) : (fitI m rs).length = (fitP m rs).length := by unfold fitI; simp
theorem fitP_mem {m : Mod} {rs : List Rul} {p : Rul × Nat} (h : p ∈ fitP m rs) : rs[p.2]? = some p.1 /\ fitsF p.1 m = true := by
 unfold fitP at h
 rw [List.mem_filter] at h
 exact ⟨List.mk_mem_zipIdx_iff_getElem?.1 h.1, h.2⟩
def choF (rs : List Rul) (s : Int) (c : Cel) : Int × Int := chooseF s c.path (fitW c.mod rs)
def pickR (rs : List Rul) (s : Int) (c : Cel) : Option Rul := ((fitP c.mod rs)[(choF rs s c).1.toNat]?).map (·.1)
theorem pickIx_lt : ∀ (l : List Int) (r : Int) (i j : Nat), pickIx r l i = some j -> i <= j /\ j < i + l.length
 | [], r, i, j, h => by unfold pickIx at h; cases h
 | x :: l, r, i, j, h => by
  unfold pickIx at h
  split at h
  ·injection h with h; subst h; simp
  ·have := pickIx_lt l (r - x) (i + 1) j h
   simp only [List.length_cons]; omega
theorem sum_bd (k : Int) (hk : 0 <= k) : ∀ (l : List Int), (∀ x ∈ l, 1 <= x /\ x <= k) -> (l.length : Int) <= l.sum /\ l.sum <= l.length * k
 | [], _ => by simp
 | x :: l, h => by
  have h1 := h x (by simp)
  have h2 := sum_bd k hk l fun y hy => h y (by simp [hy])
  simp only [List.sum_cons, List.length_cons, Int.natCast_add, Int.natCast_one, Int.add_mul, Int.one_mul]
  omega
theorem choose_ok {s : Int} {p : ByteArray} {l : List Int} (hl : l.length <= 200) (h : ∀ x ∈ l, 1 <= x /\ x <= 1000000) (hne : l ≠ []) : ∃ i : Nat, i < l.length /\ chooseF s p l = ((i : Int), 0) := by
 have hb := sum_bd 1000000 (by omega) l h
 have hpos : 0 < l.length := List.length_pos_iff.2 hne
 have hs : sumW l = l.sum := by
  unfold sumW
  rw [if_neg (by omega), if_pos, if_neg (by omega)]
  unfold allW
  rw [List.all_eq_true]
  intro x hx
  have := h x hx
  simp; omega
 unfold chooseF pickF
 rw [if_neg (by rw [hs]; omega), hs]
 have h1 := Int.emod_nonneg (ofF s p) (show l.sum ≠ 0 by omega)
 have h2 := Int.emod_lt_of_pos (ofF s p) (show 0 < l.sum by omega)
 cases hx : pickIx (ofF s p % l.sum) l 0 with
 | none => exact absurd hx (pickIx_some l _ 0 h1 h2)
 | some i => exact ⟨i, by have := pickIx_lt _ _ _ _ hx; omega, rfl⟩
theorem choose_nil (s : Int) (p : ByteArray) : chooseF s p [] = (0, 2) := rfl
theorem checkC_zero9 {rs : List Rul} (h : checkC rs = 0) : manyR rs = false /\ rs.all fineC = true := by
 cases hm : manyR rs
 ·rw [checkC_all hm] at h
  refine ⟨rfl, ?_⟩
  by_cases ha : rs.all fineC = true
  ·exact ha
  ·rw [if_neg ha] at h; cases h
 ·rw [checkC_many hm] at h; cases h
theorem fineC_core {r : Rul} (h : fineC r = true) : coreR r = true /\ 1 <= r.weight /\ r.weight <= 1000000 := by
 unfold fineC okW at h
 simp only [Bool.and_eq_true, decide_eq_true_eq] at h
 exact ⟨h.1.1.1, h.2.1, h.2.2⟩
structure RVal (rs : List Rul) : Prop where
 l : rs.length <= 40
 o : ∀ r ∈ rs, r.out.length <= 20
 c : ∀ r ∈ rs, coreR r = true
 w : ∀ r ∈ rs, 1 <= r.weight /\ r.weight <= 1000000
theorem rval_of {rs : List Rul} (h : checkC rs = 0) : RVal rs := by
 obtain ⟨h1, h2⟩ := checkC_zero9 h
 unfold manyR at h1
 rw [Bool.or_eq_false_iff, List.any_eq_false] at h1
 refine ⟨by have := h1.1; simp at this; omega, fun r hr => ?_, fun r hr => (fineC_core (List.all_eq_true.1 h2 r hr)).1, fun r hr => (fineC_core (List.all_eq_true.1 h2 r hr)).2⟩
 have := h1.2 r hr
 simp at this
 omega
theorem pick_cases {rs : List Rul} (hv : RVal rs) (s : Int) (c : Cel) :
  (fitP c.mod rs = [] /\ choF rs s c = (0, 2) /\ pickR rs s c = none) ∨
  ∃ (i j : Nat) (r : Rul), i < (fitP c.mod rs).length /\ choF rs s c = ((i : Int), 0) /\ (fitI c.mod rs)[i]? = some (j : Int) /\ rs[j]? = some r /\ fitsF r c.mod = true /\ pickR rs s c = some r := by
 by_cases h0 : fitP c.mod rs = []
 ·refine .inl ⟨h0, ?_, ?_⟩
  ·unfold choF fitW; rw [h0]; exact choose_nil _ _
  ·unfold pickR; rw [h0]; simp
 ·refine .inr ?_
  have hle := fitP_le c.mod rs
  have hl := hv.l
  have hw : ∀ x ∈ fitW c.mod rs, 1 <= x /\ x <= 1000000 := fun x hx => by
   unfold fitW at hx
   obtain ⟨p, hp, rfl⟩ := List.mem_map.1 hx
   exact hv.w _ (List.mem_of_getElem? (fitP_mem hp).1)
  obtain ⟨i, hi, he⟩ := choose_ok (s := s) (p := c.path) (l := fitW c.mod rs) (by rw [fitW_len]; omega) hw (by
   intro e
   have := fitW_len c.mod rs
   rw [e] at this
   exact h0 (List.eq_nil_of_length_eq_zero this.symm))
  rw [fitW_len] at hi
  obtain ⟨⟨r, j⟩, hp⟩ : ∃ p, (fitP c.mod rs)[i]? = some p := ⟨_, List.getElem?_eq_getElem hi⟩
  obtain ⟨h1, h2⟩ := fitP_mem (List.mem_of_getElem? hp)
  refine ⟨i, j, r, hi, he, ?_, h1, h2, ?_⟩
  ·unfold fitI; rw [List.getElem?_map, hp]; rfl
  ·unfold pickR
   rw [show choF rs s c = ((i : Int), 0) from he]
   show Option.map _ ((fitP c.mod rs)[((i : Int)).toNat]?) = _
   rw [Int.toNat_natCast, hp]; rfl
def slash : ByteArray := ⟨#[47]⟩
def subP (p : ByteArray) (i : Nat) : ByteArray := p ++ slash ++ itoaB i
theorem subP_size (p : ByteArray) (i : Nat) : (subP p i).size = p.size + 1 + (itoaB i).size := by
 unfold subP; rw [ByteArray.size_append, ByteArray.size_append]; rfl
def sucL (p : ByteArray) (ms : List Mod) : List Cel := ms.mapIdx fun i m => ⟨subP p i, m⟩
theorem sucL_len (p : ByteArray) (ms : List Mod) : (sucL p ms).length = ms.length := by unfold sucL; simp
theorem sucL_get {p : ByteArray} {ms : List Mod} {k : Nat} {m : Mod} (h : ms[k]? = some m) : (sucL p ms)[k]? = some ⟨subP p k, m⟩ := by
 unfold sucL; rw [List.getElem?_mapIdx, h]; rfl
theorem sucL_take {p : ByteArray} {ms : List Mod} {k : Nat} {m : Mod} (h : ms[k]? = some m) : (sucL p ms).take (k + 1) = (sucL p ms).take k ++ [⟨subP p k, m⟩] := by
 rw [List.take_add_one, sucL_get h]; rfl
def shortL (l : List Cel) : Bool := l.all fun x => decide (x.path.size <= 200)
def sucR (r : Rul) (c : Cel) : List Cel × Int := if madeOk r c.mod = true then (if shortL (sucL c.path (madeL r c.mod)) = true then (sucL c.path (madeL r c.mod), 0) else ([], 4)) else ([], 16)
def succR (rs : List Rul) (s : Int) (c : Cel) : List Cel × Int := match pickR rs s c with | none => ([c], 0) | some r => sucR r c
theorem succR_none {rs : List Rul} {s : Int} {c : Cel} (h : pickR rs s c = none) : succR rs s c = ([c], 0) := by unfold succR; rw [h]
theorem succR_some {rs : List Rul} {s : Int} {c : Cel} {r : Rul} (h : pickR rs s c = some r) : succR rs s c = sucR r c := by unfold succR; rw [h]
theorem sucR_not {r : Rul} {c : Cel} (h : madeOk r c.mod = false) : sucR r c = ([], 16) := by unfold sucR; rw [if_neg (by rw [h]; decide)]
theorem sucR_long {r : Rul} {c : Cel} (h : madeOk r c.mod = true) (h2 : shortL (sucL c.path (madeL r c.mod)) = false) : sucR r c = ([], 4) := by unfold sucR; rw [if_pos h, if_neg (by rw [h2]; decide)]
theorem sucR_ok {r : Rul} {c : Cel} (h : madeOk r c.mod = true) (h2 : shortL (sucL c.path (madeL r c.mod)) = true) : sucR r c = (sucL c.path (madeL r c.mod), 0) := by unfold sucR; rw [if_pos h, if_pos h2]
theorem madeL_len (r : Rul) (m : Mod) : (madeL r m).length = r.out.length := by unfold madeL; simp
theorem succR_len {rs : List Rul} (hv : RVal rs) (s : Int) (c : Cel) : (succR rs s c).1.length <= 20 := by
 rcases pick_cases hv s c with ⟨_, _, h⟩ | ⟨i, j, r, _, _, _, hj, _, h⟩
 ·rw [succR_none h]; simp
 ·rw [succR_some h]
  have ho := hv.o r (List.mem_of_getElem? hj)
  unfold sucR
  split
  ·split
   ·simp only [sucL_len, madeL_len]; exact ho
   ·simp
  ·simp
def errL (rs : List Rul) (s : Int) : List Cel -> Int
 | [] => 0
 | c :: l => if (succR rs s c).2 ≠ 0 then (succR rs s c).2 else errL rs s l
def allL (rs : List Rul) (s : Int) (l : List Cel) : List Cel := l.flatMap fun c => (succR rs s c).1
def manyR9 (rs : List Rul) (s : Int) (l : List Cel) : List Cel × Int := if errL rs s l ≠ 0 then ([], errL rs s l) else (allL rs s l, 0)
def stepR9 (rs : List Rul) (s : Int) (l : List Cel) : List Cel × Int := if errL rs s l ≠ 0 then ([], errL rs s l) else if 2000 < (allL rs s l).length then ([], 4) else (allL rs s l, 0)
theorem errL_app (rs : List Rul) (s : Int) : ∀ a b : List Cel, errL rs s (a ++ b) = if errL rs s a ≠ 0 then errL rs s a else errL rs s b
 | [], b => by rw [List.nil_append, if_neg (by show ¬ ((0 : Int) ≠ 0); decide)]
 | c :: a, b => by
  show (if (succR rs s c).2 ≠ 0 then (succR rs s c).2 else errL rs s (a ++ b)) = if (if (succR rs s c).2 ≠ 0 then (succR rs s c).2 else errL rs s a) ≠ 0 then (if (succR rs s c).2 ≠ 0 then (succR rs s c).2 else errL rs s a) else errL rs s b
  by_cases h : (succR rs s c).2 ≠ 0
  ·rw [if_pos h, if_pos h, if_pos h]
  ·rw [if_neg h, if_neg h, errL_app rs s a b]
theorem allL_app (rs : List Rul) (s : Int) (a b : List Cel) : allL rs s (a ++ b) = allL rs s a ++ allL rs s b := by unfold allL; rw [List.flatMap_append]
theorem allL_len {rs : List Rul} (hv : RVal rs) (s : Int) : ∀ l : List Cel, (allL rs s l).length <= l.length * 20
 | [] => Nat.zero_le _
 | c :: l => by
  have h1 := succR_len hv s c
  have h2 := allL_len hv s l
  show ((succR rs s c).1 ++ allL rs s l).length <= _
  rw [List.length_append, List.length_cons]; omega
theorem errL_snoc {rs : List Rul} {s : Int} {l : List Cel} {k : Nat} {c : Cel} (h : l[k]? = some c) (h0 : errL rs s (l.take k) = 0) : errL rs s (l.take (k + 1)) = (succR rs s c).2 := by
 rw [List.take_add_one, h, errL_app, if_neg (by rw [h0]; decide)]
 show (if (succR rs s c).2 ≠ 0 then (succR rs s c).2 else 0) = _
 split
 ·rfl
 ·rename_i h; exact (Classical.not_not.1 h).symm
theorem allL_snoc {rs : List Rul} {s : Int} {l : List Cel} {k : Nat} {c : Cel} (h : l[k]? = some c) : allL rs s (l.take (k + 1)) = allL rs s (l.take k) ++ (succR rs s c).1 := by
 rw [List.take_add_one, h, allL_app]
 show allL rs s (l.take k) ++ ((succR rs s c).1 ++ []) = _
 rw [List.append_nil]
theorem errL_take {rs : List Rul} {s : Int} {l : List Cel} {k : Nat} (h : errL rs s (l.take k) ≠ 0) : errL rs s l = errL rs s (l.take k) := by
 have := errL_app rs s (l.take k) (l.drop k)
 rw [List.take_append_drop, if_pos h] at this
 exact this
theorem manyR9_ok {rs : List Rul} {s : Int} {l : List Cel} (h : errL rs s l = 0) : manyR9 rs s l = (allL rs s l, 0) := by unfold manyR9; rw [if_neg (by rw [h]; decide)]
theorem manyR9_err {rs : List Rul} {s : Int} {l : List Cel} (h : errL rs s l ≠ 0) : manyR9 rs s l = ([], errL rs s l) := by unfold manyR9; rw [if_pos h]
theorem manyR9_len {rs : List Rul} (hv : RVal rs) (s : Int) (l : List Cel) : (manyR9 rs s l).1.length <= l.length * 20 := by
 unfold manyR9
 split
 ·simp
 ·exact allL_len hv s l
end
section
open Go.RowKit Go.Sort Go.BigFrame
theorem chFits_calls (r : Rul) (A : Option Addr) (c : Nat) (A2 : Option Addr) (c2 : Nat) (A' : Option Addr) (c' : Nat) (m : Mod) (w : World) (h : RulAt r (Old w) w A c A2 c2) (h' : SlAt (pI .i64) (Old w) w A' c' m.args) (hs : coreR r = true) (hm : m.args.all argOk = true /\ m.args.length <= 4) :
  Calls Tryd.prog 68 #[.agg #[.int .u8 r.name, .int .i64 r.arity, .int .u8 r.left, .int .u8 r.right, .slice A r.guards.length c, .int .i64 r.weight, .slice A2 r.out.length c2], .agg #[.int .u8 m.name, .slice A' m.args.length c']] w (BoolPost (fitsF r m) w) := by
 have hmx := h.sg.lenle
 have hmx' := h'.lenle
 obtain ⟨W0, hW0⟩ : ∃ W0, W0 = (w.alloc (.cells #[.int .u8 r.name, .int .i64 r.arity, .int .u8 r.left, .int .u8 r.right, .slice A r.guards.length c, .int .i64 r.weight, .slice A2 r.out.length c2] 60)).alloc (.cells #[.int .u8 m.name, .slice A' m.args.length c'] 49) := ⟨_, rfl⟩
 have hb0 : Below w.heap.size w W0 := by rw [hW0]; exact ((Below.refl _ _).alloc (Nat.le_refl _) _).alloc (by simp) _
 have hz0 : w.heap.size + 2 <= W0.heap.size := by rw [hW0]; simp
 have hbr0 : Blk W0 w.heap.size 60 #[.int .u8 r.name, .int .i64 r.arity, .int .u8 r.left, .int .u8 r.right, .slice A r.guards.length c, .int .i64 r.weight, .slice A2 r.out.length c2] := by rw [hW0]; exact (Blk.new _ _ _).alloc _
 have hbl0 : Blk W0 (w.heap.size + 1) 49 #[.int .u8 m.name, .slice A' m.args.length c'] := by
  rw [hW0]
  have := Blk.new (w.alloc (.cells #[.int .u8 r.name, .int .i64 r.arity, .int .u8 r.left, .int .u8 r.right, .slice A r.guards.length c, .int .i64 r.weight, .slice A2 r.out.length c2] 60)) 49 #[.int .u8 m.name, .slice A' m.args.length c']
  rwa [show (w.alloc (.cells #[.int .u8 r.name, .int .i64 r.arity, .int .u8 r.left, .int .u8 r.right, .slice A r.guards.length c, .int .i64 r.weight, .slice A2 r.out.length c2] 60)).heap.size = w.heap.size + 1 from by simp] at this
 obtain ⟨H, H', Hb0, Hbl0, Hbr0, Hm, Hs, HW0⟩ := HH8 h h' hb0 hbl0 hbr0 hm hs hW0; clear h h' hb0 hbl0 hbr0 hm hs hW0
 cases hn1 : (r.name != m.name)
 ·cases hn2 : (r.arity != (m.args.length : Int))
  ·have hff := fitsF_else hn1 hn2
   have hgo := fun (x : Frm) (hx : x ∈ r.guards) => guardOk Hs.out hn2 Hm.out hx
   obtain ⟨Hff, Hgo⟩ := HH2 hff hgo; clear hff hgo
   go_enter Tryd.func68, Tryd.ntmps68
   go_wp2
   rw [<- HW0.out]
   clear hn1 hn2
   go_loopw [26] (fun i wr => ∃ j : Nat, j <= r.guards.length /\ i = .int .i64 j /\ Hid (Below W0.heap.size W0 wr) /\ W0.heap.size <= wr.heap.size /\ Hid (fitsF r m = (r.guards.drop j).all (fun g => decide (0 <= worthF g m.args)))) (fun i _ => r.guards.length - (intOf i).toNat)
   case atStart => exact ⟨0, Nat.zero_le _, rfl, Below.refl _ _, Nat.le_refl _, Hff⟩
   case round =>
    obtain ⟨j, hj, rfl, hb, hsz, hall⟩ := hrel
    obtain ⟨wo, rfl⟩ : ∃ wo : World, wo = wr := ⟨_, rfl⟩
    have hbwo : Below w.heap.size w wo := Hb0.out.trans (hb.out.mono (by omega))
    have hblo := Hbl0.out.same (hb.out.block _ (by omega))
    obtain ⟨Hbwo, Hblo⟩ := HH2 hbwo hblo; clear hbwo hblo
    by_cases hlt : j < r.guards.length
    ·obtain ⟨b3, o3, A3, c3, f, hdf, rfl, hob3, hs0, hs1, hsc, hsa, hsl⟩ := (H.out.sg.below Hbwo.out).getFrm hlt
     have hok := Hgo.out f (mem_of_drop hdf.out)
     obtain ⟨wx, hwx⟩ : ∃ wx, wx = wo.alloc (.cells #[.int .i64 f.const, .slice A3 f.coefs.length c3] 70) := ⟨_, rfl⟩
     have hbx : Below wo.heap.size wo wx := by rw [hwx]; exact (Below.refl _ _).alloc (Nat.le_refl _) _
     have hzx : wo.heap.size + 1 <= wx.heap.size := by rw [hwx]; simp
     have hbf : Blk wx wo.heap.size 70 #[.int .i64 f.const, .slice A3 f.coefs.length c3] := by rw [hwx]; exact Blk.new _ _ _
     have hcs : SlAt (pI .i64) (Old w) wx A3 c3 f.coefs := hsa.out.keep fun q hq => hbx.block q (by have : q < w.heap.size := hq; omega)
     have hasp : SlAt (pI .i64) (Old w) wx A' c' m.args := H'.out.below (Hbwo.out.trans (hbx.mono (by omega)))
     have y1 := (Hblo.out.same (hbx.block _ (by omega))).cell 1
     simp only [List.getElem?_toArray, List.getElem?_cons_succ, List.getElem?_cons_zero] at y1
     have v1 := hbf.cell 1
     simp only [List.getElem?_toArray, List.getElem?_cons_succ, List.getElem?_cons_zero] at v1
     have u1 := Hblo.out.cell 1
     simp only [List.getElem?_toArray, List.getElem?_cons_succ, List.getElem?_cons_zero] at u1
     obtain ⟨x0, x1, x2, x3, x4, x5, x6⟩ := (Hbr0.out.same (hb.out.block _ (by omega))).rul
     clear x0 x1 x2 x3 x5 x6
     have hbx1 : Below W0.heap.size W0 wx := hb.out.trans (hbx.mono hsz)
     have hbxw : Below w.heap.size w wx := Hbwo.out.trans (hbx.mono (by omega))
     have hkk := hok.k
     have haa := hok.a
     have hco := hok.c
     have hl4 := hok.l
     have hln := hok.n
     have hwd : worthF f m.args = f.const + fdot (f.coefs.drop 0) (m.args.drop 0) := rfl
     have hk0 : (0 : Int) <= (j : Int) := Int.natCast_nonneg _
     have hk1 : (j : Int) < (r.guards.length : Int) := by omega
     obtain ⟨Hok, Hbx, Hbf, Hcs, Hasp, Hbx1, Hbxw, Hkk, Haa, Hwd, Hln⟩ := HH11 hok hbx hbf hcs hasp hbx1 hbxw hkk haa hwd hln; clear hok hbx hbf hcs hasp hbx1 hbxw hkk haa hwd hln
     go_upto_region 7 with fail
     rw [<- hwx]
     have Hwx := HH1 hwx; clear hwx
     clear hs0 hs1 x4 u1
     go_wp2
     clear y1
     go_loop [35, 7] (fun i n => ∃ k : Nat, k <= m.args.length /\ i = .int .i64 k /\ ∃ s : Int, n = .int .i64 s /\ -(1000000 + k * 1000000000000000 : Int) <= s /\ s <= 1000000 + k * 1000000000000000 /\ Hid (worthF f m.args = s + fdot (f.coefs.drop k) (m.args.drop k))) (fun i _ => m.args.length - (intOf i).toNat)
     case atStart => exact ⟨0, Nat.zero_le _, rfl, f.const, rfl, by omega, by omega, Hwd⟩
     case round =>
      obtain ⟨k, hk, rfl, s, rfl, hs0, hs1, hd⟩ := hrel
      by_cases hlt3 : k < m.args.length
      ·have hltx : k < f.coefs.length := by have := Hln.out; omega
       obtain ⟨b, o, x, hdx, rfl, _, hcx, hfx⟩ := Hasp.out.getI hlt3
       obtain ⟨b', o', y, hdy, rfl, _, hcy, hfy⟩ := Hcs.out.getI hltx
       have hmb := mul_bd (Hkk.out y (mem_of_drop hdy.out)) (Haa.out x (mem_of_drop hdx.out))
       obtain ⟨hm0, hm1⟩ := hmb
       have hw1 : -9223372036854775808 <= s + y * x /\ s + y * x <= 9223372036854775807 := by omega
       go_wp2
       go_round
       case rel =>
        refine ⟨k + 1, by omega, by go_num, s + y * x, by go_num, by omega, by omega, ?_⟩
        unfold Hid; rw [hd.out, fdot_cons hdy.out hdx.out]; omega
       case measure => simp [intOf]; omega
      ·have he : worthF f m.args = s := by rw [hd.out, drop_end hlt3, drop_end (xs := f.coefs) (by have := Hln.out; omega)]; unfold fdot; omega
       have He := HH1 he; clear he
       by_cases hv : s < 0
       ·go_wp2
        go_ret
        exact ⟨ret_bool (by rw [hall.out, hdf.out, List.all_cons, He.out, decide_eq_false (by omega)]; rfl), Hbxw.out⟩
       ·go_wp2
        go_roundw
        case rel =>
         refine ⟨j + 1, by omega, by go_num, Hbx1, by omega, ?_⟩
         unfold Hid; rw [hall.out, hdf.out, List.all_cons, He.out, decide_eq_true (by omega)]; rfl
        case measure => simp [intOf]; omega
    ·go_wp2
     go_ret
     exact ⟨ret_bool (by rw [hall.out, drop_end hlt]; rfl), Hbwo.out⟩
  ·have hno := fitsF_arity hn2
   have Hno := HH1 hno; clear hno
   go_enter Tryd.func68, Tryd.ntmps68
   go_wp2
   go_ret
   exact ⟨by rw [Hno.out]; rfl, by rw [<- HW0.out]; exact Hb0.out⟩
 ·have hno := fitsF_name hn1
  have Hno := HH1 hno; clear hno
  go_enter Tryd.func68, Tryd.ntmps68
  go_wp2
  go_ret
  exact ⟨by rw [Hno.out]; rfl, by rw [<- HW0.out]; exact Hb0.out⟩
end
section
open Go.RowKit Go.Sort
theorem fit_sums {r : Rul} {m : Mod} (hco : coreR r = true) (hfit : fitsF r m = true) (hm : m.args.all argOk = true /\ m.args.length <= 4) : (∀ s ∈ r.out, ∀ f ∈ s.args, SumOk f m.args) /\ ∀ s ∈ r.out, s.args.length <= 4 := by
 have har : r.arity = (m.args.length : Int) := by
  unfold fitsF at hfit
  simp only [Bool.and_eq_true, beq_iff_eq] at hfit
  exact hfit.1.2
 refine ⟨fun s hs f hf => ?_, fun s hs => ?_⟩
 ·have h1 := (fineR_guards hco).2.2.2 s hs f hf
  rw [har, Int.toNat_natCast] at h1
  exact sumOk h1 hm.1 hm.2
 ·have h1 := List.all_eq_true.1 (checkF_iff.1 (core_out hco).1).2.1 _ (List.mem_map.2 ⟨s, hs, rfl⟩)
  have h2 := (fine_args h1).2
  simpa using h2
def okS (args : List Int) (s : Shp) : Bool := s.args.all fun f => argOk (worthF f args)
end
end Go.Proofs.YtlipmagkplbkdaaDoor
