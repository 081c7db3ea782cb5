/-
  Layer 5: the walk of the reference's Order.
-/
import Derived.Test.YtcdmmejicmbagaaDoorTk
namespace Go.Proofs.YtcdmmejicmbagaaDoor
open Go.RowKit Go.Sort
set_option linter.unusedVariables false

theorem refOrder_bad (s : Int) (p : ByteArray) (n : Int) (w : World) (hn : Fits .i64 n) (h : n < 0 ∨ 200 < n) : Calls Tryd.prog 12 #[.int .i64 s, .string p, .int .i64 n] w (NoOrder w) := by
  have hn' := hn.i64
  by_cases h1 : n < 0
  · go_enter Tryd.func12, Tryd.ntmps12
    go_wp2
    go_ret2
    exact ⟨rfl, Below.refl _ _⟩
  · have h2 : 200 < n := by omega
    clear h
    go_enter Tryd.func12, Tryd.ntmps12
    go_wp2
    go_ret2
    exact ⟨rfl, Below.refl _ _⟩

/-- an order in the first n cells of a block -/
structure OrdAt (w : World) (g : Nat) (cap n : Nat) (f : Nat → Nat) (cur : Array Value) : Prop where
  blk : Blk w g 3 cur
  size : cur.size = cap
  get : ∀ j, j < n → cur[j]? = some (.int .i64 (f j : Int))
theorem OrdAt.swap {w : World} {g cap n : Nat} {f : Nat → Nat} {cur : Array Value} (h : OrdAt w g cap n f cur) {i k : Nat} (hi : i < n) (hk : k < n) :
    OrdAt ((w.setCell ⟨g, i, none⟩ (.int .i64 (f k : Int))).setCell ⟨g, k, none⟩ (.int .i64 (f i : Int))) g cap n (swp f i k) ((cur.setIfInBounds i (.int .i64 (f k : Int))).setIfInBounds k (.int .i64 (f i : Int))) := by
  refine ⟨(h.blk.set i _).set k _, by simp [h.size], fun j hj => ?_⟩
  have hlt : ∀ j, j < n → j < cur.size := fun j hj => (Array.getElem?_eq_some_iff.1 (h.get j hj)).1
  rw [Array.getElem?_setIfInBounds]
  unfold swp
  by_cases h1 : k = j
  · subst h1
    rw [if_pos rfl, if_pos (by rw [Array.size_setIfInBounds]; exact hlt k hk)]
    by_cases h2 : k = i
    · subst h2; simp
    · rw [if_neg h2, if_pos rfl]
  · rw [if_neg h1, Array.getElem?_setIfInBounds]
    by_cases h2 : i = j
    · subst h2
      rw [if_pos rfl, if_pos (hlt i hi), if_pos rfl]
    · rw [if_neg h2, if_neg (Ne.symm h2), if_neg (Ne.symm h1)]
      exact h.get j hj
theorem OrdAt.sl {w : World} {g cap n : Nat} {f : Nat → Nat} {cur : Array Value} {F : Nat → Prop} (h : OrdAt w g cap n f cur) (hF : F g) (hc : n ≤ cap) (hm : cap ≤ maxLen) (hb : ∀ j, j < n → f j < 1000) : SlAt (pI .i64) F w (some ⟨g, 0, none⟩) cap ((List.range n).map fun j => (f j : Int)) := by
  refine ⟨by simpa using hc, hm, (fun e => by cases e), fun i x hx => ?_⟩
  have hi : i < n := by
    have := (List.getElem?_eq_some_iff.1 hx).1
    simpa using this
  have hxi : x = (f i : Int) := by
    rw [List.getElem?_map, List.getElem?_range hi] at hx
    simpa using hx.symm
  subst hxi
  refine ⟨g, 0, _, rfl, hF, ⟨rfl, fits_i64 (by have := hb i hi; omega)⟩, fun j c hc => ?_⟩
  match j, hc with
  | 0, hc =>
    simp at hc; subst hc
    rw [h.blk.cell]
    simpa [pI] using h.get i hi
theorem ord_own {w : World} {base : Nat} {G : Nat → Prop} {v : Value} {n : Nat} (h : Own (pI .i64) 3 base G w v ((List.range n).map fun j => ((j : Nat) : Int))) (hn : n ≠ 0) : ∃ g cap cur, v = .slice (some ⟨g, 0, none⟩) n cap ∧ base ≤ g ∧ n ≤ cap ∧ cap ≤ maxLen ∧ OrdAt w g cap n (fun j => j) cur := by
  obtain ⟨cells, ⟨h1, h2⟩, h3⟩ := h
  have hl : ((List.range n).map fun j => ((j : Nat) : Int)).length = n := by simp
  rw [hl] at h1 h2
  rcases h2 with ⟨_, h0⟩ | ⟨g, cap, cur, hv, hb, hg, hc, hm, hs, ht⟩
  · exact absurd h0 hn
  · refine ⟨g, cap, cur, hv, hb, hc, hm, hg, by simpa [pI] using hs, fun j hj => ?_⟩
    obtain ⟨cs, ⟨hcs, _⟩, h5⟩ := h3.get (i := j) (x := (j : Int)) (by rw [List.getElem?_map, List.getElem?_range hj]; rfl)
    have := h5 0 _ (by rw [hcs]; rfl)
    have hj1 : j * (pI .i64).n + 0 = j := by simp [pI]
    rw [hj1, ← ht, List.getElem?_take] at this
    have h1n : (pI .i64).n = 1 := rfl
    rw [h1n, Nat.mul_one, if_pos hj] at this
    simpa using this

set_option maxRecDepth 100000 in
set_option maxHeartbeats 4000000 in
theorem refOrder_calls (s : Int) (p : ByteArray) (n : Nat) (w : World) (hs : Fits .i64 s) (hp : p.size ≤ 500) (hn : n ≤ 200) :
    Calls Tryd.prog 12 #[.int .i64 s, .string p, .int .i64 n] w (OrderPost (orderL s p n) w) := by
  have Hs := Lib.hid hs; clear hs
  go_enter Tryd.func12, Tryd.ntmps12
  go_wp2
  go_loopw [9, 8] (fun i v wr => ∃ k : Nat, k ≤ n ∧ i = .int .i64 k ∧ Hid (Below w.heap.size w wr) ∧ w.heap.size ≤ wr.heap.size ∧ ∃ A c, v = .slice A k c ∧ Hid (Own (pI .i64) 3 w.heap.size (fun _ => False) wr v ((List.range k).map fun j => ((j : Nat) : Int)))) (fun i _ _ => n - (intOf i).toNat)
  case atStart => exact ⟨0, Nat.zero_le _, rfl, Below.refl _ _, Nat.le_refl _, none, 0, rfl, Own.nil⟩
  case round =>
    obtain ⟨k, hk, rfl, hb, hsz, A, c, rfl, hown⟩ := hrel
    obtain ⟨wo, rfl⟩ : ∃ wo : World, wo = wr := ⟨_, rfl⟩
    by_cases hlt : k < n
    · have hkl : ((List.range k).map fun j => ((j : Nat) : Int)).length = k := by simp
      have hR : (pI .i64).R (fun _ => False) wo (Value.int .i64 (k : Int)).cells.toList (k : Int) := ⟨rfl, fits_i64 (by omega)⟩
      have hF : ∀ q, False → False ∧ q < wo.heap.size ∧ some q ≠ (Value.slice A k c).ownBlock := fun q hq => hq.elim
      have hrm : Room ((List.range k).map fun j => ((j : Nat) : Int)).length := by rw [hkl]; exact room_of (by omega)
      have HR := Lib.hid hR; clear hR
      have HF := Lib.hid hF; clear hF
      have Hrm := Lib.hid hrm; clear hrm
      have Hkl := Lib.hid hkl; clear hkl
      go_wp2_with ((with_reducible show wpList _ _ _ (Oper.mk (some 25) _ _ _ _ _ :: _) _ _); refine wpList_push (E := pI .i64) (xs := (List.range k).map fun j => ((j : Nat) : Int)) (v := .slice A k c) (base := w.heap.size) (G := fun _ => False) 22 3 (.int .i64 0) 8 25 (.tmp 23) (.tmp 24) rfl rfl rfl rfl rfl Tryd.underlying22 info_intT rfl (by decide) (fun _ => rfl) (fun _ => rfl) hown.out (.int .i64 (k : Int)) rfl (k : Int) (fun _ => False) HR.out HF.out Hrm.out (by decide) hsz ?_; rw [Hkl.out]; intro A7 c7 w7 hown7 hb7 hk7; have Hown7 := Lib.hid hown7; have Hb7 := Lib.hid hb7; clear hown7 hb7 hk7)
      have hbw7 : Below w.heap.size w w7 := hb.out.trans Hb7.out
      have Hbw7 := Lib.hid hbw7; clear hbw7
      go_roundw
      case rel =>
        refine ⟨k + 1, by omega, by go_num, Hbw7, Hbw7.out.size, A7, c7, rfl, ?_⟩
        unfold Hid; rw [List.range_succ, List.map_append]; exact Hown7.out
      case measure => simp [intOf]; omega
    · obtain rfl : k = n := by omega
      clear hlt hk
      by_cases hz : k = 0
      · subst hz
        obtain ⟨A1, c1, hv, hs1⟩ := hown.out.sl
        have hsl : SlAt (pI .i64) (Old wo) wo A c (orderL s p 0) := by
          simp only [Value.slice.injEq] at hv
          obtain ⟨rfl, _, rfl⟩ := hv
          exact hs1.wide fun q hq => hq.2
        clear hv hs1
        have Hsl := Lib.hid hsl; clear hsl
        go_wp2
        go_loop [10] (fun i => i = .int .i64 (-1)) (fun _ => 0)
        case atStart => rfl
        case round =>
          obtain rfl := hrel
          go_wp2
          go_ret2
          exact ⟨A, c, rfl, hb.out, Hsl⟩
      · obtain ⟨g, cap, cur, hv, hgb, hnc, hcm, hord⟩ := ord_own hown.out hz
        simp only [Value.slice.injEq] at hv
        obtain ⟨rfl, hjk, rfl⟩ := hv
        clear hjk
        have hgl := hord.blk.lt
        have hpm : Perm k (fun j => j) := ⟨fun j hj => hj, fun a b _ _ h => h⟩
        have hk1 : ((k : Int) - 1) = ((k - 1 : Nat) : Int) := by omega
        have h0 : 0 < k := by omega
        have Hord := Lib.hid hord; clear hord
        have Hpm := Lib.hid hpm; clear hpm
        have Hk1 := Lib.hid hk1; clear hk1
        have Hz := Lib.hid hz; clear hz
        clear hown
        go_wp2
        rw [Hk1.out]
        go_loopw [10] (fun i wr => ∃ m : Nat, m < k ∧ i = .int .i64 m ∧ Hid (Below w.heap.size w wr) ∧ g < wr.heap.size ∧ ∃ f cur, Hid (OrdAt wr g c k f cur) ∧ Hid (Perm k f) ∧ Hid (ordN s p k = ordF s p m f)) (fun i _ => (intOf i).toNat)
        case atStart => exact ⟨k - 1, by omega, rfl, hb, hgl, _, _, Hord, Hpm, rfl⟩
        case round =>
          obtain ⟨m, hm, rfl, hb2, hsz2, f, cur2, hbl2, hpm2, hor⟩ := hrel
          obtain ⟨wp, rfl⟩ : ∃ wp : World, wp = wr := ⟨_, rfl⟩
          by_cases hpos : 0 < m
          · have hqe := placeN_eq s p m
            have hqm := placeN_le s p m
            obtain ⟨q, hq⟩ : ∃ q, placeN s p m = q := ⟨_, rfl⟩
            rw [hq] at hqe hqm
            have hps := pathI_size p (show m < 200 by omega) hp
            obtain ⟨it, hit⟩ : ∃ it : ByteArray, (⟨(Lib.itoa (m : Int)).toArray⟩ : ByteArray) = it := ⟨_, rfl⟩
            have hits : it.size ≤ 4 := by
              rw [← hit]
              have h2 : (⟨(Lib.itoa (m : Int)).toArray⟩ : ByteArray).size = (Lib.itoa (m : Int)).length := by show (Lib.itoa (m : Int)).toArray.size = _; simp
              rw [h2]; exact itoa_len ⟨m, by omega⟩
            have hpath : pathI p m = p ++ ⟨#[47]⟩ ++ it := by unfold pathI; rw [hit]
            have hdc := decimal_calls m (by omega) wp
            rw [hit] at hdc
            obtain ⟨x, hx⟩ : ∃ x, ofF s (p ++ ⟨#[47]⟩ ++ it) = x := ⟨_, rfl⟩
            have hxr := ofF_range s (p ++ ⟨#[47]⟩ ++ it)
            rw [hx] at hxr
            have hof := refOf6_calls s (p ++ ⟨#[47]⟩ ++ it) wp Hs.out (by rw [← hpath]; exact hps)
            rw [hx] at hof
            have hw1 : IntKind.i64.wrap ((m : Int) + 1) = (m : Int) + 1 := IntWalk.i64_in _ (by omega)
            have hw2 : IntKind.u64.wrap ((m : Int) + 1) = (m : Int) + 1 := IntWalk.u64_in _ (by omega)
            have hres : placeF s p m = x % ((m : Int) + 1) := by unfold placeF; rw [hpath, hx]
            have hi0 : (0 : Int) < (m : Int) + 1 := by omega
            have k0 : ¬ (m : Int) + 1 = 0 := by omega
            obtain ⟨md, hmd⟩ : ∃ md, x % ((m : Int) + 1) = md := ⟨_, rfl⟩
            have k9 : x.tmod ((m : Int) + 1) = md := by rw [Int.tmod_eq_emod_of_nonneg hxr.1]; exact hmd
            have hmq : md = (q : Int) := by rw [← hmd, ← hres, hqe]
            subst hmq
            have k6 : IntKind.i64.wrap (q : Int) = (q : Int) := IntWalk.i64_in _ (by omega)
            have k5 : wrap64 (q : Int) = (q : Int) := IntWalk.wrap64_in _ (by omega)
            have k9' := Lib.hid k9
            clear k9
            have Hmd := Lib.hid hmd; clear hmd
            have k1 : p.size + 1 ≤ 9223372036854775807 := by omega
            have k2 : ¬ 9223372036854775807 < p.size + 1 := Nat.not_lt.2 k1
            have k3 : p.size + 1 + it.size ≤ 9223372036854775807 := by omega
            have k4 : ¬ 9223372036854775807 < p.size + 1 + it.size := Nat.not_lt.2 k3
            have hqk : q < k := Nat.lt_of_le_of_lt hqm hm
            have hq0 : (0 : Int) ≤ (q : Int) := Int.natCast_nonneg _
            have hq1 : (q : Int) < (k : Int) := Int.ofNat_lt.2 hqk
            have hpm3 := perm_swp hpm2.out hm hqk
            have hord2 : ordN s p k = ordF s p (m - 1) (swp f m q) := by
              obtain ⟨m', rfl⟩ : ∃ m', m = m' + 1 := ⟨m - 1, by omega⟩
              rw [hor.out, ← hq]; rfl
            have k9 := k9'.out
            clear k9'
            have Hq := Lib.hid hq; clear hq
            have Hqe := Lib.hid hqe; clear hqe
            have Hres := Lib.hid hres; clear hres
            have Hit := Lib.hid hit; clear hit
            have Hpath := Lib.hid hpath; clear hpath
            have Hps := Lib.hid hps; clear hps
            have Hx := Lib.hid hx; clear hx
            have Hdc := Lib.hid hdc; clear hdc
            have Hof := Lib.hid hof; clear hof
            have Hpm3 := Lib.hid hpm3; clear hpm3
            have Hord2 := Lib.hid hord2; clear hord2
            go_wp2_with fail
            refine Hdc.out.mono ?_
            rintro e w' ⟨rfl, rfl⟩
            go_wp2_with fail
            refine Hof.out.mono ?_
            rintro e w3 ⟨rfl, hb3⟩
            have hbw : Below w.heap.size w w3 := hb2.out.trans (hb3.mono hb2.out.size)
            have hsz3 : g < w3.heap.size := Nat.lt_of_lt_of_le hsz2 hb3.size
            have hbl3 : OrdAt w3 g c k f cur2 := ⟨hbl2.out.blk.same (hb3.block _ hsz2), hbl2.out.size, hbl2.out.get⟩
            have hci := (hbl3.blk.cell m).trans (hbl3.get m hm)
            have hcq := (hbl3.blk.cell q).trans (hbl3.get q hqk)
            have hfi := hbl3.blk.free m
            have hfq := hbl3.blk.free q
            have hset := hbl3.swap hm hqk
            have hbs : Below w.heap.size w ((w3.setCell ⟨g, m, none⟩ (.int .i64 (f q : Int))).setCell ⟨g, q, none⟩ (.int .i64 (f m : Int))) := (hbw.setCell hgb _).setCell hgb _
            have Hbw := Lib.hid hbw; clear hbw
            have Hbl3 := Lib.hid hbl3; clear hbl3
            have Hset := Lib.hid hset; clear hset
            have Hbs := Lib.hid hbs; clear hbs
            clear hb3
            by_cases hqm2 : q = m
            · subst hqm2
              go_wp2
              clear hw1 hw2 hi0 k0 k9 k6 k5 k1 k2 k3 k4 hits hxr
              go_region
              go_wp2
              go_roundw
              case rel => exact ⟨q - 1, by omega, by go_num, below_drew Hbs.out, by simpa [World.setCell] using hsz3, _, _, ⟨Hset.out.blk.same rfl, Hset.out.size, Hset.out.get⟩, Hpm3, Hord2⟩
              case measure => simp [intOf]; omega
            · go_wp2
              clear hw1 hw2 hi0 k0 k9 k6 k5 k1 k2 k3 k4 hits hxr
              go_region
              go_wp2
              go_roundw
              case rel => exact ⟨m - 1, by omega, by go_num, below_drew Hbs.out, by simpa [World.setCell] using hsz3, _, _, ⟨Hset.out.blk.same rfl, Hset.out.size, Hset.out.get⟩, Hpm3, Hord2⟩
              case measure => simp [intOf]; omega
          · obtain rfl : m = 0 := by omega
            have hsl : SlAt (pI .i64) (Old wp) wp (some ⟨g, 0, none⟩) c (orderL s p k) := by
              unfold orderL
              rw [hor.out]
              exact hbl2.out.sl hsz2 hnc hcm fun j hj => by have := hpm2.out.lt j hj; omega
            have hll := orderL_length s p k
            have Hsl := Lib.hid hsl; clear hsl
            have Hll := Lib.hid hll; clear hll
            go_wp2
            go_ret2
            exact ⟨some ⟨g, 0, none⟩, c, by rw [Hll.out]; rfl, hb2.out, Hsl⟩
end Go.Proofs.YtcdmmejicmbagaaDoor
