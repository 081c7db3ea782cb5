/-
  Layer 8: the walk of Check.
-/
import Derived.Test.YtpeknefmjdipmaaGreatDoorCd
import Derived.Test.YtpeknefmjdipmaaGreatDoorFh
namespace Go.Proofs.YtpeknefmjdipmaaGreatDoor
open Go.RowKit Go.Sort

theorem info_rulC : (Tryz.prog.info? 38).map (fun i => (i.zero, i.size, i.bytes)) = some (some (.agg #[.int .u8 0, .int .i64 0, .int .u8 0, .int .u8 0, .slice none 0 0, .int .i64 0, .slice none 0 0]), 7, 80) := by kernel_rfl
/-- a block's cells, by the elements that lie in them -/
def RowR (F : Nat → Prop) (w : World) (C : Array Value) (xs : List Rul) : Prop := ∀ i x, xs[i]? = some x → ∃ cs, pRul.R F w cs x ∧ ∀ j c, cs[j]? = some c → C[i * 7 + j]? = some c
theorem RowR.keep {F : Nat → Prop} {w w' : World} {C : Array Value} {xs : List Rul} (h : RowR F w C xs) (k : ∀ k, F k → w'.heap[k]? = w.heap[k]?) : RowR F w' C xs := fun i x hx => by
  obtain ⟨cs, h1, h2⟩ := h i x hx
  exact ⟨cs, pRul.keep h1 k, h2⟩
theorem RowR.sl {F F' : Nat → Prop} {w : World} {g : Nat} {t : TypeId} {C : Array Value} {xs : List Rul} (h : RowR F w C xs) (hb : Blk w g t C) (hg : F' g) (hF : ∀ k, F k → F' k) (hn : xs.length ≤ maxLen) : SlAt pRul F' w (some ⟨g, 0, none⟩) xs.length xs :=
  ⟨Nat.le_refl _, hn, (fun e => by cases e), fun i x hx => by
    obtain ⟨cs, h1, h2⟩ := h i x hx
    exact ⟨g, 0, cs, rfl, hg, pRul.wide h1 hF, fun j c hc => by rw [hb.cell, Nat.zero_add]; exact h2 j c hc⟩⟩
theorem RowR.set {F : Nat → Prop} {w : World} {C : Array Value} {xs : List Rul} {k : Nat} {r : Rul} (h : RowR F w C xs) (hr : xs[k]? = some r) : RowR F w ((C.setIfInBounds (k * 7 + 2) (.int .u8 0)).setIfInBounds (k * 7 + 3) (.int .u8 0)) (xs.set k (bareN r)) := by
  intro i x hx
  have hk := (List.getElem?_eq_some_iff.1 hr).1
  by_cases hik : i = k
  · subst hik
    rw [List.getElem?_set_self hk] at hx
    cases hx
    obtain ⟨cs, ⟨A, c, A', c', rfl, ⟨f1, f2, f3, f4, f5⟩, hg, ho⟩, h2⟩ := h i r hr
    refine ⟨_, ⟨A, c, A', c', rfl, ⟨f1, f2, fits_u8 (n := 0) (by decide), fits_u8 (n := 0) (by decide), f5⟩, hg, ho⟩, fun j c hc => ?_⟩
    have hsz : i * 7 + 6 < C.size := (Array.getElem?_eq_some_iff.1 (h2 6 _ rfl)).1
    match j, hc with
    | 0, hc => rw [Array.getElem?_setIfInBounds_ne (by omega), Array.getElem?_setIfInBounds_ne (by omega)]; exact (h2 0 _ rfl).trans hc
    | 1, hc => rw [Array.getElem?_setIfInBounds_ne (by omega), Array.getElem?_setIfInBounds_ne (by omega)]; exact (h2 1 _ rfl).trans hc
    | 2, hc => rw [Array.getElem?_setIfInBounds_ne (by omega), Array.getElem?_setIfInBounds_self_of_lt (by omega)]; exact hc
    | 3, hc => rw [Array.getElem?_setIfInBounds_self_of_lt (by simp; omega)]; exact hc
    | 4, hc => rw [Array.getElem?_setIfInBounds_ne (by omega), Array.getElem?_setIfInBounds_ne (by omega)]; exact (h2 4 _ rfl).trans hc
    | 5, hc => rw [Array.getElem?_setIfInBounds_ne (by omega), Array.getElem?_setIfInBounds_ne (by omega)]; exact (h2 5 _ rfl).trans hc
    | 6, hc => rw [Array.getElem?_setIfInBounds_ne (by omega), Array.getElem?_setIfInBounds_ne (by omega)]; exact (h2 6 _ rfl).trans hc
  · rw [List.getElem?_set_ne (Ne.symm hik)] at hx
    obtain ⟨cs, h1, h2⟩ := h i x hx
    refine ⟨cs, h1, fun j c hc => ?_⟩
    have hj : j < 7 := by have := (List.getElem?_eq_some_iff.1 hc).1; have h7 := pRul.len h1; simp only [pRul] at h7; omega
    rw [Array.getElem?_setIfInBounds_ne (by omega), Array.getElem?_setIfInBounds_ne (by omega)]
    exact h2 j c hc
theorem RowR.seven {F : Nat → Prop} {w : World} {g : Nat} {t : TypeId} {C : Array Value} {xs : List Rul} {k : Nat} {r : Rul} (h : RowR F w C xs) (hb : Blk w g t C) (hr : xs[k]? = some r) : ∃ A c A' c',
    w.cell? ⟨g, k * 7, none⟩ = some (.int .u8 r.name) ∧ w.cell? ⟨g, k * 7 + 1, none⟩ = some (.int .i64 r.arity) ∧ w.cell? ⟨g, k * 7 + 2, none⟩ = some (.int .u8 r.left) ∧ w.cell? ⟨g, k * 7 + 3, none⟩ = some (.int .u8 r.right) ∧
    w.cell? ⟨g, k * 7 + 4, none⟩ = some (.slice A r.guards.length c) ∧ w.cell? ⟨g, k * 7 + 5, none⟩ = some (.int .i64 r.weight) ∧ w.cell? ⟨g, k * 7 + 6, none⟩ = some (.slice A' r.out.length c') ∧ Fits .u8 r.left ∧ Fits .u8 r.right := by
  obtain ⟨cs, ⟨A, c, A', c', rfl, ⟨f1, f2, f3, f4, f5⟩, hg, ho⟩, h2⟩ := h k r hr
  refine ⟨A, c, A', c', ?_, ?_, ?_, ?_, ?_, ?_, ?_, f3, f4⟩
  · rw [hb.cell]; simpa using h2 0 _ rfl
  all_goals rw [hb.cell]
  · exact h2 1 _ rfl
  · exact h2 2 _ rfl
  · exact h2 3 _ rfl
  · exact h2 4 _ rfl
  · exact h2 5 _ rfl
  · exact h2 6 _ rfl

def sideR (r : Rul) : Bool := sideOk r.left && sideOk r.right
def bareK (rs : List Rul) (k : Nat) : List Rul := (rs.take k).map bareN ++ rs.drop k
theorem bareK_zero (rs : List Rul) : bareK rs 0 = rs := rfl
theorem bareK_all (rs : List Rul) : bareK rs rs.length = rs.map bareN := by unfold bareK; simp
theorem bareK_len (rs : List Rul) (k : Nat) (hk : k ≤ rs.length) : (bareK rs k).length = rs.length := by unfold bareK; simp; omega
theorem bareK_at {rs : List Rul} {k : Nat} (hk : k < rs.length) : (bareK rs k)[k]? = some rs[k] := by
  unfold bareK
  rw [List.getElem?_append_right (by simp; omega)]
  simp [Nat.min_eq_left (Nat.le_of_lt hk)]
theorem bareK_set {rs : List Rul} {k : Nat} (hk : k < rs.length) : (bareK rs k).set k (bareN rs[k]) = bareK rs (k + 1) := by
  apply List.ext_getElem?
  intro i
  have hl := bareK_len rs k (Nat.le_of_lt hk)
  by_cases hik : i = k
  · subst hik
    rw [List.getElem?_set_self (by omega)]
    unfold bareK
    rw [List.getElem?_append_left (by simp; omega), List.getElem?_map, List.getElem?_take, if_pos (by omega), List.getElem?_eq_getElem hk]
    rfl
  · rw [List.getElem?_set_ne (Ne.symm hik)]
    unfold bareK
    by_cases hlt : i < k
    · rw [List.getElem?_append_left (by simp; omega), List.getElem?_append_left (by simp; omega), List.getElem?_map, List.getElem?_map, List.getElem?_take, List.getElem?_take, if_pos hlt, if_pos (by omega)]
    · rw [List.getElem?_append_right (by simp; omega), List.getElem?_append_right (by simp; omega), List.getElem?_drop, List.getElem?_drop]
      congr 1
      simp
      omega
theorem sideR_cases (b : Bool) (r : Rul) : ((b && sideR r) = false ∧ b = false) ∨ (b = true ∧ (((b && sideR r) = false ∧ (r.left == 0) = false ∧ plainC r.left = false) ∨
    (((r.left == 0) = true ∨ ((r.left == 0) = false ∧ plainC r.left = true)) ∧ (((b && sideR r) = true ∧ (r.right == 0) = true) ∨ ((b && sideR r) = plainC r.right ∧ (r.right == 0) = false))))) := by
  unfold sideR sideOk
  cases b <;> cases h1 : (r.left == 0) <;> cases h2 : plainC r.left <;> cases h3 : (r.right == 0) <;> cases h4 : plainC r.right <;> simp
theorem checkC_mapped (rs : List Rul) (p : ByteArray) : checkC rs p = if checkR (rs.map bareN) = 0 then (if (ignF p && rs.all sideR) = true then 0 else 8) else checkR (rs.map bareN) := by
  unfold checkC
  congr 1
  have e : (rs.all fun r => sideOk r.left && sideOk r.right) = rs.all sideR := rfl
  rw [e]
  by_cases h1 : ignF p = true <;> by_cases h2 : rs.all sideR = true <;> simp [h1, h2]
theorem small_bare {rs : List Rul} (h : Small rs) : Small (rs.map bareN) := by
  refine ⟨by simpa using h.l, fun r hr => ?_, fun r hr => ?_, fun r hr => ?_⟩
  all_goals
    obtain ⟨r', h1, rfl⟩ := List.mem_map.1 hr
  · exact h.g r' h1
  · exact h.o r' h1
  · exact h.a r' h1

set_option maxRecDepth 100000 in
set_option maxHeartbeats 4000000 in
theorem cCheck_calls (A : Option Addr) (c : Nat) (rs : List Rul) (p : ByteArray) (w : World) (h : SlAt pRul (Old w) w A c rs) (hs : Small rs) (hp : p.size ≤ 1000) :
    Calls Tryz.prog 46 #[.slice A rs.length c, .string p] w (IntPost (checkC rs p) w) := by
  have hmx := h.lenle
  have hsl := hs.l
  have hcm := checkC_mapped rs p
  have hmk := fun (wx : World) => run_make_rowN (P := Tryz.prog) (t := 33) (e := 38) Tryz.underlying33 info_rulC rs.length (by omega) (by omega) wx
  obtain ⟨Z, hZ⟩ : ∃ Z, madeCells (Value.agg #[.int .u8 0, .int .i64 0, .int .u8 0, .int .u8 0, .slice none 0 0, .int .i64 0, .slice none 0 0]).cells (rs.length * 7) = Z := ⟨_, rfl⟩
  have hZs : Z.size = rs.length * 7 := by rw [← hZ]; exact size_madeCells _ _
  rw [hZ] at hmk
  have hcell : ∀ q, Old w q → (w.alloc (.cells Z 38)).heap[q]? = w.heap[q]? := fun q hq => Below.heap_alloc _ _ _ hq
  have H1 := Lib.hid (h.keep hcell)
  have H := Lib.hid h; clear h
  have Hcm := Lib.hid hcm; clear hcm
  have HZ := Lib.hid hZ; clear hZ
  clear hcell
  go_enter Tryz.func46, Tryz.ntmps46
  go_wp2_with ((with_reducible show wpList _ _ _ (Oper.mk (some 15) _ _ _ _ _ :: _) _ _); refine wpList_copyAll (E := pRul) 33 38 (.tmp 13) (.tmp 14) rfl rfl Tryz.underlying33 (by kernel_rfl) rs.length w.heap.size 38 _ rfl (Blk.new _ _ _) hZs A c rs rfl rfl (Old w) H1.out (fun q hq => Nat.ne_of_lt hq) w.heap.size w ((Below.refl _ _).alloc (Nat.le_refl _) _) (Nat.le_refl _) ?_; intro w1 cells hblk hcells hb1 hk1 hsz1)
  have hsz1' : w.heap.size < w1.heap.size := by rw [hsz1]; simp
  have hrow1 : RowR (Old w) w1 cells.toArray (bareK rs 0) := fun i x hx => by
    obtain ⟨cs, h3, h5⟩ := hcells.out.get hx
    exact ⟨cs, h3, fun j c hc => by simpa [pRul] using h5 j c hc⟩
  have hig := ignorable_calls p w1 hp
  have Hrow1 := Lib.hid hrow1; clear hrow1
  have Hig := Lib.hid hig; clear hig
  clear hmk hk1 hsz1 H1 hcells
  refine Hig.out.mono ?_
  rintro e w2 ⟨rfl, hb2⟩
  have hz2 := hb2.size
  have hbw2 := hb1.trans (hb2.mono (by omega))
  have hblk2 := hblk.out.same (hb2.block _ hsz1')
  have hrow2 := Hrow1.out.keep (w' := w2) fun q hq => hb2.block q (by have : q < w.heap.size := hq; omega)
  have hz2' : w.heap.size < w2.heap.size := by omega
  have hok2 : (ignF p && (rs.take 0).all sideR) = ignF p := by simp
  have Hbw2 := Lib.hid hbw2; clear hbw2
  have Hblk2 := Lib.hid hblk2; clear hblk2
  have Hrow2 := Lib.hid hrow2; clear hrow2
  have Hok2 := Lib.hid hok2; clear hok2
  clear hb2 hb1 hblk Hrow1
  go_wp2
  go_loopw [20, 6] (fun i okv wr => ∃ (k : Nat) (b : Bool) (C : Array Value), k ≤ rs.length ∧ i = .int .i64 k ∧ okv = .bool b ∧ Hid ((ignF p && (rs.take k).all sideR) = b) ∧ Hid (Below w.heap.size w wr) ∧ w.heap.size < wr.heap.size ∧ Hid (Blk wr w.heap.size 38 C) ∧ Hid (RowR (Old w) wr C (bareK rs k))) (fun i _ _ => rs.length - (intOf i).toNat)
  case atStart => exact ⟨0, ignF p, cells.toArray, Nat.zero_le _, rfl, rfl, Hok2, Hbw2, hz2', Hblk2, Hrow2⟩
  case round =>
    obtain ⟨k, b, C, hk, rfl, rfl, hok, hb, hsz, hblk, hrow⟩ := hrel
    obtain ⟨wo, rfl⟩ : ∃ wo : World, wo = wr := ⟨_, rfl⟩
    by_cases hlt : k < rs.length
    case neg =>
      obtain rfl : k = rs.length := by omega
      have hok' := hok.out
      rw [List.take_length] at hok'
      have hrow' := hrow.out
      rw [bareK_all] at hrow'
      have hsl' := hrow'.sl (F' := Old wo) hblk.out hsz (fun q hq => by have : q < w.heap.size := hq; show q < wo.heap.size; omega) (by rw [List.length_map]; unfold maxLen; omega)
      have hck := rCheck_calls (some ⟨w.heap.size, 0, none⟩) (rs.map bareN).length (rs.map bareN) wo hsl' (small_bare hs)
      rw [List.length_map] at hck
      have Hok' := Lib.hid hok'; clear hok'
      have Hck := Lib.hid hck; clear hck
      clear hrow' hsl'
      go_wp2_with fail
      refine Hck.out.mono ?_
      rintro e w3 ⟨rfl, hb3⟩
      have hbw3 := hb.out.trans (hb3.mono (by omega))
      have Hbw3 := Lib.hid hbw3; clear hbw3
      clear hb3
      by_cases hr : checkR (rs.map bareN) = 0
      · have e0 : (checkR (rs.map bareN) != 0) = false := by simp [hr]
        have hy := Hcm.out
        rw [if_pos hr, Hok'.out] at hy
        cases b
        · have Hy := Lib.hid hy; clear hy
          have Hr := Lib.hid hr; clear hr
          go_wp2
          go_ret
          exact ⟨ret_int (by rw [Hy.out]; rfl), Hbw3.out⟩
        · have Hy := Lib.hid hy; clear hy
          have Hr := Lib.hid hr; clear hr
          go_wp2
          go_ret
          exact ⟨ret_int (by rw [Hy.out]; rfl), Hbw3.out⟩
      · have e0 : (checkR (rs.map bareN) != 0) = true := by simp [hr]
        have hy := Hcm.out
        rw [if_neg hr] at hy
        have Hy := Lib.hid hy; clear hy
        have Hr := Lib.hid hr; clear hr
        go_wp2
        go_ret
        exact ⟨ret_int Hy.out.symm, Hbw3.out⟩
    case pos =>
      obtain ⟨r, hr⟩ : ∃ r, rs[k] = r := ⟨_, rfl⟩
      have hat := bareK_at hlt
      rw [hr] at hat
      obtain ⟨A1, c1, A2, c2, k0, k1, k2, k3, k4, k5, k6, fl, fr⟩ := hrow.out.seven hblk.out hat
      have hnext : (ignF p && (rs.take (k + 1)).all sideR) = (b && sideR r) := by
        rw [List.take_add_one, List.getElem?_eq_getElem hlt, hr, List.all_append, ← Bool.and_assoc, hok.out]
        simp
      have hrow4 := hrow.out.set hat
      rw [← hr, bareK_set hlt] at hrow4
      obtain ⟨W1, hW1⟩ : ∃ W1, W1 = wo.alloc (.cells #[.int .u8 r.name, .int .i64 r.arity, .int .u8 r.left, .int .u8 r.right, .slice A1 r.guards.length c1, .int .i64 r.weight, .slice A2 r.out.length c2] 38) := ⟨_, rfl⟩
      have hb1 : Below wo.heap.size wo W1 := by rw [hW1]; exact (Below.refl _ _).alloc (Nat.le_refl _) _
      have hz1 : wo.heap.size + 1 ≤ W1.heap.size := by rw [hW1]; simp
      have hbx : Blk W1 wo.heap.size 38 #[.int .u8 r.name, .int .i64 r.arity, .int .u8 r.left, .int .u8 r.right, .slice A1 r.guards.length c1, .int .i64 r.weight, .slice A2 r.out.length c2] := by rw [hW1]; exact Blk.new _ _ _
      have hcL : ∀ W, Below W1.heap.size W1 W → Calls Tryz.prog 65 #[.int .u8 r.left] W fun e W' => e = .returned (.bool (plainC r.left)) ∧ Below W1.heap.size W1 W' := fun W hW => (cPlain_calls _ W fl).mono fun e W' ⟨he, hb⟩ => ⟨he, hW.trans (hb.mono hW.size)⟩
      have hcR : ∀ W, Below W1.heap.size W1 W → Calls Tryz.prog 65 #[.int .u8 r.right] W fun e W' => e = .returned (.bool (plainC r.right)) ∧ Below W1.heap.size W1 W' := fun W hW => (cPlain_calls _ W fr).mono fun e W' ⟨he, hb⟩ => ⟨he, hW.trans (hb.mono hW.size)⟩
      have sk : ∀ W, Below W1.heap.size W1 W → W.cell? ⟨wo.heap.size, 2, none⟩ = some (.int .u8 r.left) ∧ W.cell? ⟨wo.heap.size, 3, none⟩ = some (.int .u8 r.right) := fun W hW => by
        have h1 := hbx.same (hW.block _ (by omega))
        exact ⟨h1.cell 2, h1.cell 3⟩
      have fin : ∀ W, Below W1.heap.size W1 W → W.cell? ⟨w.heap.size, k * 7 + 2, none⟩ = some (.int .u8 r.left) ∧ W.cell? ⟨w.heap.size, k * 7 + 3, none⟩ = some (.int .u8 r.right) ∧ W.frozen? ⟨w.heap.size, k * 7 + 2, none⟩ = false ∧ W.frozen? ⟨w.heap.size, k * 7 + 3, none⟩ = false ∧
          Hid (Below w.heap.size w ((W.setCell ⟨w.heap.size, k * 7 + 2, none⟩ (.int .u8 0)).setCell ⟨w.heap.size, k * 7 + 3, none⟩ (.int .u8 0))) ∧ w.heap.size < ((W.setCell ⟨w.heap.size, k * 7 + 2, none⟩ (.int .u8 0)).setCell ⟨w.heap.size, k * 7 + 3, none⟩ (.int .u8 0)).heap.size ∧
          Hid (Blk ((W.setCell ⟨w.heap.size, k * 7 + 2, none⟩ (.int .u8 0)).setCell ⟨w.heap.size, k * 7 + 3, none⟩ (.int .u8 0)) w.heap.size 38 ((C.setIfInBounds (k * 7 + 2) (.int .u8 0)).setIfInBounds (k * 7 + 3) (.int .u8 0))) ∧
          Hid (RowR (Old w) ((W.setCell ⟨w.heap.size, k * 7 + 2, none⟩ (.int .u8 0)).setCell ⟨w.heap.size, k * 7 + 3, none⟩ (.int .u8 0)) ((C.setIfInBounds (k * 7 + 2) (.int .u8 0)).setIfInBounds (k * 7 + 3) (.int .u8 0)) (bareK rs (k + 1))) := fun W hW => by
        have hbo : Below wo.heap.size wo W := hb1.trans (hW.mono (by omega))
        have hkb : Blk W w.heap.size 38 C := hblk.out.same (hbo.block _ hsz)
        have hzW := hbo.size
        refine ⟨(cell_keep (hbo.block _ hsz)).trans k2, (cell_keep (hbo.block _ hsz)).trans k3, hkb.free _, hkb.free _, ?_, by simp [World.setCell]; omega, (hkb.set _ _).set _ _, ?_⟩
        · exact ((hb.out.trans (hbo.mono (by omega))).setCell (Nat.le_refl _) _).setCell (Nat.le_refl _) _
        · exact hrow4.keep fun q hq => (Below.heap_setCell _ _ _ _ (Nat.ne_of_lt hq)).trans ((Below.heap_setCell _ _ _ _ (Nat.ne_of_lt hq)).trans (hbo.block q (Nat.lt_trans hq hsz)))
      have hbase : Below W1.heap.size W1 W1 := Below.refl _ _
      obtain ⟨nb, hnb⟩ : ∃ nb, (b && sideR r) = nb := ⟨_, rfl⟩
      have hcs := sideR_cases b r
      rw [hnb] at hcs hnext
      have hseven := And.intro k0 (And.intro k1 (And.intro k2 (And.intro k3 (And.intro k4 (And.intro k5 k6)))))
      have Hnext := Lib.hid hnext; clear hnext
      have HcL := Lib.hid hcL; clear hcL
      have HcR := Lib.hid hcR; clear hcR
      have Sk := Lib.hid sk; clear sk
      have Fin := Lib.hid fin; clear fin
      have Hb1 := Lib.hid hb1; clear hb1
      have Hbx := Lib.hid hbx; clear hbx
      have Hnb := Lib.hid hnb; clear hnb
      have Hrow4 := Lib.hid hrow4; clear hrow4
      have Hat := Lib.hid hat; clear hat
      have Hseven := Lib.hid hseven; clear hseven
      clear k0 k1 k2 k3 k4 k5 k6 fl fr hr
      obtain ⟨k0, k1, k2, k3, k4, k5, k6⟩ : wo.cell? ⟨w.heap.size, k * 7, none⟩ = some (.int .u8 r.name) ∧ wo.cell? ⟨w.heap.size, k * 7 + 1, none⟩ = some (.int .i64 r.arity) ∧ wo.cell? ⟨w.heap.size, k * 7 + 2, none⟩ = some (.int .u8 r.left) ∧ wo.cell? ⟨w.heap.size, k * 7 + 3, none⟩ = some (.int .u8 r.right) ∧ wo.cell? ⟨w.heap.size, k * 7 + 4, none⟩ = some (.slice A1 r.guards.length c1) ∧ wo.cell? ⟨w.heap.size, k * 7 + 5, none⟩ = some (.int .i64 r.weight) ∧ wo.cell? ⟨w.heap.size, k * 7 + 6, none⟩ = some (.slice A2 r.out.length c2) := Hseven.out
      go_upto_region 7 with fail
      rw [← hW1]
      obtain ⟨y2, y3⟩ := Sk.out W1 hbase
      have HW1 := Lib.hid hW1; clear hW1
      clear k0 k1 k2 k3 k4 k5 k6
      rcases hcs with ⟨rfl, rfl⟩ | ⟨rfl, (⟨rfl, e1, e2⟩ | ⟨(e1 | ⟨e1, e2⟩), (⟨rfl, e3⟩ | ⟨rfl, e3⟩)⟩)⟩
      all_goals
        go_upto_region 8 with (first
          | (go_at_call 65; (with_reducible refine (HcL.out _ ?_).mono ?_); (first | assumption | exact hbase); rintro e wv ⟨rfl, hBv⟩; obtain ⟨z2, z3⟩ := Sk.out _ hBv)
          | (go_at_call 65; (with_reducible refine (HcR.out _ ?_).mono ?_); (first | assumption | exact hbase); rintro e wv ⟨rfl, hBv⟩; obtain ⟨z2, z3⟩ := Sk.out _ hBv))
      all_goals
        (first | have hf := Fin.out _ hBv | have hf := Fin.out _ hbase)
        obtain ⟨a0, a1, a2, a3, a4, a5, a6, a7⟩ := hf
        go_wp2
        go_roundw
        case rel => exact ⟨k + 1, _, _, hlt, by go_num, rfl, Hnext, a4, a5, a6, a7⟩
        case measure => simp [intOf]; omega
end Go.Proofs.YtpeknefmjdipmaaGreatDoor
