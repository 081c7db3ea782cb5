/-
  Layer 10: the walk of the program's rows.
-/
import Derived.Test.YtflojbohcippnaaNe
namespace Go.Proofs.Ytflojbohcippnaa
open Go.RowKit Go.Sort

def MatPost (rs : List Rul) (p : ByteArray) (w : World) (e : Ending) (w' : World) : Prop :=
  ∃ A c, e = .returned (.slice A p.size c) ∧ Below w.heap.size w w' ∧ Hid (SlAt (pSl (pI .i64)) (fun q => w.heap.size ≤ q ∧ q < w'.heap.size) w' A c (rowsF rs p))
theorem getD_bytes {p : ByteArray} {k : Nat} (h : k < p.size) : (bytesI p).getD k 0 = (p[k].toNat : Int) := getD_of_drop (drop_bytesI h)

/-- one row on its way: f, behind j rules; b: has a rule been found? -/
def RowSt (rs : List Rul) (p : ByteArray) (c : Int) (j : Nat) (b : Bool) (f : Nat → Int) : Prop :=
  (b = false ∧ rs.find? (fun r => r.name == c) = (rs.drop j).find? (fun r => r.name == c) ∧ ∀ i, f i = 0) ∨ (b = true ∧ ∃ r, rs.find? (fun r => r.name == c) = some r ∧ ∀ i, i < p.size → f i = tally p r.out i)

theorem Grid.set1 {w : World} {g n i : Nat} {f : Nat → Int} {F : Nat → Nat → Int} (h : Grid w g n n (fun a => if a = i then f else F a)) (hi : i < n) (j : Nat) (v : Int) :
    Grid (w.setCell ⟨g + 1 + i, j, none⟩ (.int .i64 v)) g n n (fun a => if a = i then (fun b => if b = j then v else f b) else F a) := by
  have := h.set hi j v
  have e : (fun a => if a = i then (fun b => if b = j then v else (if i = i then f else F i) b) else (if a = i then f else F a)) = (fun a => if a = i then (fun b => if b = j then v else f b) else F a) := by
    funext a
    by_cases ha : a = i
    · simp [ha]
    · simp [ha]
  rw [← e]; exact this
theorem Grid.cells {w : World} {g n i : Nat} {f : Nat → Int} {F : Nat → Nat → Int} (h : Grid w g n n (fun a => if a = i then f else F a)) (hi : i < n) {j : Nat} (hj : j < n) :
    w.cell? ⟨g, i, none⟩ = some (.slice (some ⟨g + 1 + i, 0, none⟩) n n) ∧ w.cell? ⟨g + 1 + i, j, none⟩ = some (.int .i64 (f j)) ∧ w.frozen? ⟨g + 1 + i, j, none⟩ = false := by
  refine ⟨?_, ?_, (h.row i hi).free j⟩
  · rw [h.top.cell, gridC_get hi, if_pos hi]
  · rw [(h.row i hi).cell]; simp only [if_true]; exact cellsN_get f hj
theorem rowSt_found {rs : List Rul} {p : ByteArray} {c : Int} {j : Nat} {f f' : Nat → Int} {r : Rul} (h : RowSt rs p c j false f) (hd : rs.drop j = r :: rs.drop (j + 1)) (hn : (r.name != c) = false) (hf : ∀ i, i < p.size → f' i = tally p r.out i) : RowSt rs p c (j + 1) true f' := by
  rcases h with ⟨_, h, _⟩ | ⟨h, _⟩
  · refine .inr ⟨rfl, r, ?_, hf⟩
    rw [h, hd, List.find?_cons, show (r.name == c) = true from by simpa using hn]
  · cases h
theorem rowSt_next {rs : List Rul} {p : ByteArray} {c : Int} {j : Nat} {f : Nat → Int} {r : Rul} (h : RowSt rs p c j false f) (hd : rs.drop j = r :: rs.drop (j + 1)) (hn : (r.name != c) = true) : RowSt rs p c (j + 1) false f := by
  rcases h with ⟨h0, h, h1⟩ | ⟨h, _⟩
  · refine .inl ⟨rfl, ?_, h1⟩
    rw [h, hd, List.find?_cons, show (r.name == c) = false from by simpa using hn]
  · cases h
theorem rowSt_true {rs : List Rul} {p : ByteArray} {c : Int} {j : Nat} {f : Nat → Int} (h : RowSt rs p c j true f) (j' : Nat) : RowSt rs p c j' true f := by
  rcases h with ⟨h, _⟩ | h
  · cases h
  · exact .inr h
theorem rowSt_end {rs : List Rul} {p : ByteArray} {c : Int} {k j : Nat} {f : Nat → Int} (h : RowSt rs p c j true f) (hc : (bytesI p).getD k 0 = c) : ∀ i, i < p.size → f i = rowsFn rs p k i := by
  rcases h with ⟨h, _⟩ | ⟨_, r, h, hf⟩
  · cases h
  · intro i hi; unfold rowsFn rowFn; rw [hc, h]; exact hf i hi
theorem rowSt_none {rs : List Rul} {p : ByteArray} {c : Int} {k j : Nat} {f : Nat → Int} (h : RowSt rs p c j false f) (hj : ¬ j < rs.length) (hc : (bytesI p).getD k 0 = c) : ∀ i, i < p.size → (if i = k then 1 else f i) = rowsFn rs p k i := by
  rcases h with ⟨_, h, hf⟩ | ⟨h, _⟩
  · intro i hi; unfold rowsFn rowFn; rw [hc, h, drop_end hj, hf i]; rfl
  · cases h
theorem rowSt_zero {rs : List Rul} {p : ByteArray} {c : Int} {j : Nat} {f : Nat → Int} (h : RowSt rs p c j false f) : ∀ i, f i = 0 := by
  rcases h with ⟨_, _, h⟩ | ⟨h, _⟩
  · exact h
  · cases h

set_option maxRecDepth 100000 in
set_option maxHeartbeats 4000000 in
theorem rows_calls (A : Option Addr) (c : Nat) (rs : List Rul) (p : ByteArray) (w : World) (h : SlAt pRul (Old w) w A c rs) (hs : Small rs) (hp : p.size ≤ 12) :
    Calls Try.prog 21 #[.slice A rs.length c, .string p] w (MatPost rs p w) := by
  have hmx := h.lenle
  have H := Lib.hid h; clear h
  have Hs := Lib.hid hs; clear hs
  go_enter Try.func21, Try.ntmps21
  go_wp2_with fail
  refine (zero_calls p.size w hp).mono ?_
  rintro e w1 ⟨rfl, hb1, hz1, hg1⟩
  have Hb1 := Lib.hid hb1; clear hb1
  have Hg1 := Lib.hid hg1; clear hg1
  go_wp2
  go_loopw [18] (fun i wr => ∃ k : Nat, k ≤ p.size ∧ i = .int .i64 k ∧ Hid (Below w.heap.size w wr) ∧ w.heap.size + 1 + p.size ≤ wr.heap.size ∧ ∃ F, Hid (Grid wr w.heap.size p.size p.size F) ∧ Hid (∀ i, (i < k → ∀ j, j < p.size → F i j = rowsFn rs p i j) ∧ (k ≤ i → ∀ j, F i j = 0))) (fun i _ => p.size - (intOf i).toNat)
  case atStart => exact ⟨0, Nat.zero_le _, rfl, Hb1, hz1, _, Hg1, fun i => ⟨fun h => absurd h (Nat.not_lt_zero _), fun _ j => rfl⟩⟩
  case round =>
    obtain ⟨k, hk, rfl, hb, hsz, F, hgr, hF⟩ := hrel
    obtain ⟨wo, rfl⟩ : ∃ wo : World, wo = wr := ⟨_, rfl⟩
    by_cases hlt : k < p.size
    · obtain ⟨x, hx⟩ : ∃ x, (p[k].toNat : Int) = x := ⟨_, rfl⟩
      have hxg : (bytesI p).getD k 0 = x := by rw [getD_bytes hlt, hx]
      have Hxg := Lib.hid hxg; clear hxg
      go_wp2
      go_loopw [23, 7] (fun i fd wr => ∃ j : Nat, j ≤ rs.length ∧ i = .int .i64 j ∧ ∃ b : Bool, fd = .bool b ∧ Hid (Below w.heap.size w wr) ∧ w.heap.size + 1 + p.size ≤ wr.heap.size ∧ ∃ f, Hid (Grid wr w.heap.size p.size p.size (fun a => if a = k then f else F a)) ∧ Hid (RowSt rs p x j b f)) (fun i _ _ => rs.length - (intOf i).toNat)
      case atStart =>
        refine ⟨0, Nat.zero_le _, rfl, false, rfl, hb, hsz, F k, ?_, .inl ⟨rfl, by rw [List.drop_zero], (hF.out k).2 (Nat.le_refl _)⟩⟩
        unfold Hid
        have : (fun a => if a = k then F k else F a) = F := by funext a; split <;> simp_all
        rw [this]; exact hgr.out
      case round =>
        obtain ⟨j, hj, rfl, b, rfl, hb2, hsz2, f, hgr2, hst⟩ := hrel
        obtain ⟨wp, rfl⟩ : ∃ wp : World, wp = wr := ⟨_, rfl⟩
        by_cases hlt2 : j < rs.length
        · obtain ⟨b1, o1, A1, c1, A2, c2, r, hd, rfl, hob, k0, k1, k2, k3, k4, k5, k6, hat, hl1, hl2⟩ := (H.out.below hb2.out).getRulAt hlt2
          have hob' : b1 < wp.heap.size := by have : b1 < w.heap.size := hob; omega
          have hbz : Below w.heap.size w (wp.alloc (.cells #[.int .u8 r.name, .int .i64 r.arity, .int .u8 r.left, .int .u8 r.right, .slice A1 r.guards.length c1, .int .i64 r.weight, .slice A2 r.out.length c2] 61)) := hb2.out.alloc (by omega) _
          have hal : Blk (wp.alloc (.cells #[.int .u8 r.name, .int .i64 r.arity, .int .u8 r.left, .int .u8 r.right, .slice A1 r.guards.length c1, .int .i64 r.weight, .slice A2 r.out.length c2] 61)) wp.heap.size 61 #[.int .u8 r.name, .int .i64 r.arity, .int .u8 r.left, .int .u8 r.right, .slice A1 r.guards.length c1, .int .i64 r.weight, .slice A2 r.out.length c2] := Blk.new _ _ _
          have Hbz := Lib.hid hbz; clear hbz
          have Hal := Lib.hid hal; clear hal
          have hgz := hgr2.out.alloc (.cells #[.int .u8 r.name, .int .i64 r.arity, .int .u8 r.left, .int .u8 r.right, .slice A1 r.guards.length c1, .int .i64 r.weight, .slice A2 r.out.length c2] 61)
          have Hgz := Lib.hid hgz; clear hgz
          cases b
          · cases hn : (r.name != x)
            · go_wp2
              go_quiet (fail)
              clear k0 k1 k2 k3 k4 k5 k6
              go_wp2
              go_loopw [39] (fun i wr => ∃ m : Nat, m ≤ r.out.length ∧ i = .int .i64 m ∧ Hid (Below w.heap.size w wr) ∧ w.heap.size + 1 + p.size ≤ wr.heap.size ∧ ∃ f, Hid (Grid wr w.heap.size p.size p.size (fun a => if a = k then f else F a)) ∧ Hid (∀ i, i < p.size → f i = tally p (r.out.take m) i)) (fun i _ => r.out.length - (intOf i).toNat)
              case atStart => exact ⟨0, Nat.zero_le _, rfl, below_drewN Hbz.out _, Nat.le_trans hsz2 (by show wp.heap.size ≤ (wp.alloc _).heap.size; simp), f, Hgz.out.same fun _ _ => rfl, fun i hi => by rw [rowSt_zero hst.out i]; rfl⟩
              case round =>
                obtain ⟨m, hm, rfl, hb3, hsz3, f3, hgr3, hf3⟩ := hrel
                obtain ⟨wq, rfl⟩ : ∃ wq : World, wq = wr := ⟨_, rfl⟩
                by_cases hlt3 : m < r.out.length
                · obtain ⟨b3, o3, A3, c3, s, hds, rfl, hob3, hs0, hs1, hsc, hsa, hsl⟩ := (hat.out.so.keep (w' := wq) fun q hq => (hb3.out.block q hq).trans (hb2.out.block q hq).symm).getShp hlt3
                  have hob3' : b3 < wq.heap.size := by have : b3 < w.heap.size := hob3; omega
                  have hbs : Below w.heap.size w (wq.alloc (.cells #[.int .u8 s.name, .slice A3 s.args.length c3] 65)) := hb3.out.alloc (by omega) _
                  have hgs := hgr3.out.alloc (.cells #[.int .u8 s.name, .slice A3 s.args.length c3] 65)
                  have htk : ∀ i, tally p (r.out.take (m + 1)) i = tally p (r.out.take m) i + (if atF p s.name = (i : Int) then 1 else 0) := fun i => by
                    rw [take_of_drop hds.out, tally_append]; simp [tally]
                  have Hbs := Lib.hid hbs; clear hbs
                  have Hgs := Lib.hid hgs; clear hgs
                  have Htk := Lib.hid htk; clear htk
                  rcases atF_cases p s.name with ⟨ha, _⟩ | ⟨q, ha, hq, _⟩
                  · have hn3 : ∀ i, i < p.size → f3 i = tally p (r.out.take (m + 1)) i := fun i hi => by
                      rw [Htk.out, ha, if_neg (by omega), hf3.out i hi]; omega
                    have Hn3 := Lib.hid hn3; clear hn3
                    go_wp2_with fail
                    refine (ixb_calls _ _ _ hsc).mono ?_
                    rintro e w' ⟨rfl, rfl⟩
                    rw [ha]
                    go_wp2
                    go_roundw
                    case rel => exact ⟨m + 1, by omega, by go_num, Hbs, by simp; omega, f3, Hgs, Hn3⟩
                    case measure => simp [intOf]; omega
                  · obtain ⟨hcm1, hcm2, hfz⟩ := Hgs.out.cells hlt hq
                    have hbd := tally_bd p q (r.out.take m)
                    have hlen : (r.out.take m).length ≤ 30 := by have := Hs.out.o r (mem_of_drop hd.out); rw [List.length_take]; omega
                    have hv := hf3.out q hq
                    have hset := Hgs.out.set1 hlt q (f3 q + 1)
                    have hbt : Below w.heap.size w ((wq.alloc (.cells #[.int .u8 s.name, .slice A3 s.args.length c3] 65)).setCell ⟨w.heap.size + 1 + k, q, none⟩ (.int .i64 (f3 q + 1))) := Hbs.out.setCell (by show w.heap.size ≤ w.heap.size + 1 + k; omega) _
                    have hn3 : ∀ i, i < p.size → (if i = q then f3 q + 1 else f3 i) = tally p (r.out.take (m + 1)) i := fun i hi => by
                      rw [Htk.out, ha]
                      by_cases he : i = q
                      · subst he; rw [if_pos rfl, if_pos rfl, hv]
                      · rw [if_neg he, if_neg (by omega), hf3.out i hi]; omega
                    rw [← hv] at hbd
                    have hv2 : f3 q + 1 ≤ 31 := by omega
                    have hv0 : 0 ≤ f3 q := hbd.1
                    clear hv hbd hlen
                    have Hset := Lib.hid hset; clear hset
                    have Hn3 := Lib.hid hn3; clear hn3
                    have Hbt := Lib.hid hbt; clear hbt
                    generalize hvq : f3 q = v at hcm2 hv0 hv2 Hbt Hset
                    rw [hvq] at Hn3
                    have Hvq := Lib.hid hvq; clear hvq
                    go_wp2_with fail
                    refine (ixb_calls _ _ _ hsc).mono ?_
                    rintro e w' ⟨rfl, rfl⟩
                    rw [ha]
                    go_wp2
                    go_roundw
                    case rel => exact ⟨m + 1, by omega, by go_num, Hbt, by simp [World.setCell]; omega, _, Hset, Hn3⟩
                    case measure => simp [intOf]; omega
                · have hn3 : RowSt rs p x (j + 1) true f3 := rowSt_found hst.out hd.out hn (fun i hi => by rw [hf3.out i hi, List.take_of_length_le (by omega)])
                  have Hn3 := Lib.hid hn3; clear hn3
                  go_wp2
                  go_roundw
                  case rel => exact ⟨j + 1, by omega, by go_num, true, rfl, hb3, hsz3, f3, hgr3, Hn3⟩
                  case measure => simp [intOf]; omega
            · have hn3 := rowSt_next hst.out hd.out hn
              have Hn3 := Lib.hid hn3; clear hn3
              go_wp2
              go_quiet (fail)
              go_wp2
              go_roundw
              case rel => exact ⟨j + 1, by omega, by go_num, false, rfl, below_drewN Hbz.out _, Nat.le_trans hsz2 (by show wp.heap.size ≤ (wp.alloc _).heap.size; simp), f, Hgz.out.same fun _ _ => rfl, Hn3⟩
              case measure => simp [intOf]; omega
          · have hn3 := rowSt_true hst.out (j + 1)
            have Hn3 := Lib.hid hn3; clear hn3
            go_wp2
            go_quiet (fail)
            go_wp2
            go_roundw
            case rel => exact ⟨j + 1, by omega, by go_num, true, rfl, below_drewN Hbz.out _, Nat.le_trans hsz2 (by show wp.heap.size ≤ (wp.alloc _).heap.size; simp), f, Hgz.out.same fun _ _ => rfl, Hn3⟩
            case measure => simp [intOf]; omega
        · cases b
          · obtain ⟨hcm1, hcm2, hfz⟩ := hgr2.out.cells hlt hlt
            have hv := rowSt_zero hst.out k
            rw [hv] at hcm2
            have hset := hgr2.out.set1 hlt k 1
            have hn3 := rowSt_none hst.out hlt2 Hxg.out
            have hbt : Below w.heap.size w (wp.setCell ⟨w.heap.size + 1 + k, k, none⟩ (.int .i64 1)) := hb2.out.setCell (by show w.heap.size ≤ w.heap.size + 1 + k; omega) _
            clear hv
            have Hset := Lib.hid hset; clear hset
            have Hn3 := Lib.hid hn3; clear hn3
            have Hbt := Lib.hid hbt; clear hbt
            go_wp2
            go_roundw
            case rel =>
              refine ⟨k + 1, by omega, by go_num, Hbt, by simp [World.setCell]; omega, _, Hset, fun i => ⟨fun hi j hj => ?_, fun hi j => ?_⟩⟩
              · by_cases he : i = k
                · subst he; simp only [if_true]; exact Hn3.out j hj
                · simp only [if_neg he]; exact (hF.out i).1 (by omega) j hj
              · rw [if_neg (by omega)]; exact (hF.out i).2 (by omega) j
            case measure => simp [intOf]; omega
          · have hn3 := rowSt_end hst.out Hxg.out
            have Hn3 := Lib.hid hn3; clear hn3
            go_wp2
            go_roundw
            case rel =>
              refine ⟨k + 1, by omega, by go_num, hb2, hsz2, _, hgr2, fun i => ⟨fun hi j hj => ?_, fun hi j => ?_⟩⟩
              · by_cases he : i = k
                · subst he; simp only [if_true]; exact Hn3.out j hj
                · simp only [if_neg he]; exact (hF.out i).1 (by omega) j hj
              · rw [if_neg (by omega)]; exact (hF.out i).2 (by omega) j
            case measure => simp [intOf]; omega
    · obtain rfl : k = p.size := by omega
      have hbd : ∀ i, i < p.size → ∀ k, k < p.size → Fits .i64 (F i k) := fun i hi k hk => by
        rw [(hF.out i).1 hi k hk]
        have h1 := rowsF_pos (rs := rs) p Hs.out.o _ (List.mem_map.2 ⟨i, List.mem_range.2 hi, rfl⟩) _ (List.mem_map.2 ⟨k, List.mem_range.2 hk, rfl⟩)
        exact fits_i64 (by omega)
      have hsl := hgr.out.sl (G := fun q => w.heap.size ≤ q ∧ q < wo.heap.size) (by omega) hbd (fun q h1 h2 => ⟨h1, by omega⟩)
      have hrw : ((List.range p.size).map fun i => (List.range p.size).map (F i)) = rowsF rs p := by
        unfold rowsF
        refine List.map_congr_left fun i hi => List.map_congr_left fun k hk => ?_
        exact (hF.out i).1 (List.mem_range.1 hi) k (List.mem_range.1 hk)
      rw [hrw] at hsl
      have Hsl := Lib.hid hsl; clear hsl
      clear hrw hbd
      go_wp2
      go_ret
      exact ⟨_, _, rfl, hb.out, Hsl⟩
end Go.Proofs.Ytflojbohcippnaa
