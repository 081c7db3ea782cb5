/-
  Layer 5: the walk of SeedOrders.
-/
import Derived.Test.YtcdmmejicmbagaaDoorTm
namespace Go.Proofs.YtcdmmejicmbagaaDoor
open Go.RowKit Go.Sort
set_option linter.unusedVariables false

theorem info_boolT : (Tryd.prog.info? 4).map (fun i => (i.zero, i.size, i.bytes)) = some (some (.bool false), 1, 1) := by kernel_rfl
/-- which numbers have been seen -/
def cellsB (n : Nat) (f : Nat → Bool) : Array Value := ((List.range n).map fun i => Value.bool (f i)).toArray
theorem cellsB_get (f : Nat → Bool) {n k : Nat} (hk : k < n) : (cellsB n f)[k]? = some (.bool (f k)) := by
  unfold cellsB; simp [hk]
theorem cellsB_set (n : Nat) (f : Nat → Bool) (k : Nat) (v : Bool) : (cellsB n f).setIfInBounds k (.bool v) = cellsB n (fun i => if i = k then v else f i) := by
  unfold cellsB
  apply Array.ext_getElem?
  intro i
  rw [Array.getElem?_setIfInBounds]
  by_cases hi : i < n <;> by_cases hik : k = i
  · subst hik; simp [hi]
  · simp [hi, hik, Ne.symm hik]
  · subst hik; simp [hi]
  · simp [hi, hik]
theorem cellsB_made (n : Nat) : madeCells #[Value.bool false] n = cellsB n (fun _ => false) := by
  unfold madeCells cellsB
  apply Array.ext_getElem?
  intro i
  by_cases hi : i < n <;> simp [hi, Nat.mod_one]
theorem makeB0 (wx : World) : (Instr.makeSlice 41 (.int .i64 0) (.int .i64 0)).run Tryd.prog wx = .ok (.slice (some ⟨wx.heap.size, 0, none⟩) 0 0) (wx.alloc (.cells #[] 4)) := by kernel_rfl
/-- a draw, by its number -/
theorem draw_cases (s : Int) (p : ByteArray) (n : Int) (hn : Fits .i64 n) : (drawF s p n = (0, 2) ∧ (n < 1 ∨ (¬ n < 1 ∧ 1000000000 < n))) ∨ (∃ k, drawF s p n = (k, 0) ∧ 0 ≤ k ∧ k < n ∧ 1 ≤ n ∧ n ≤ 1000000000) := by
  have hn' := hn.i64
  by_cases h : n < 1 ∨ 1000000000 < n
  · left; exact ⟨by unfold drawF; rw [if_pos h], by omega⟩
  · right
    have hx := ofF_range s p
    have h0 : n ≠ 0 := by omega
    have h1 := Int.emod_nonneg (ofF s p) h0
    have h2 := Int.emod_lt_of_pos (ofF s p) (show 0 < n by omega)
    have hw : wrap64 (ofF s p % n) = ofF s p % n := IntWalk.wrap64_in _ (by omega)
    exact ⟨ofF s p % n, by unfold drawF; rw [if_neg h, hw], h1, h2, by omega, by omega⟩

set_option maxRecDepth 100000 in
set_option maxHeartbeats 8000000 in
theorem seedOrders_walk (s : Int) (p : ByteArray) (n : Int) (w : World) (hs : Fits .i64 s) (hp : p.size ≤ 9223372036854775807) (hn : Fits .i64 n) (ht : TabAt w) (hg : GAt w) :
    Calls Tryd.prog 6 #[.int .i64 s, .string p, .int .i64 n] w (BoolPost true w) := by
  have hn' := hn.i64
  have out : ∀ (W : World), Below w.heap.size w W → Calls Tryd.prog 14 #[] W fun e W' => e = .returned (.bool true) ∧ Hid (Below w.heap.size w W') := fun W hW => (alive_calls W).mono fun e W' hh => ⟨hh.1, hW.trans (hh.2.mono hW.size)⟩
  have Out := Lib.hid out; clear out
  by_cases h5 : 500 < p.size
  · go_enter Tryd.func6, Tryd.ntmps6
    go_wp2_with fail
    refine (Out.out w (Below.refl _ _)).mono ?_
    rintro e w1 ⟨rfl, b1⟩
    go_wp2
    go_ret
    exact ⟨rfl, b1.out⟩
  have hp5 : p.size ≤ 500 := by omega
  have c3 := ord_uni s p n w hs hp5 hn ht hg
  have c4 := fun w1 => draw_calls s p n w1 hs hp5 hn
  have hdr := draw_cases s p n hn
  obtain ⟨⟨os, oe⟩, hor⟩ : ∃ r, ordR s p n = r := ⟨_, rfl⟩
  obtain ⟨⟨dk, de⟩, hdk⟩ : ∃ r, drawF s p n = r := ⟨_, rfl⟩
  have hro : ((n < 0 ∨ (¬ n < 0 ∧ 200 < n)) ∧ os = [] ∧ oe = 2) ∨ (∃ k : Nat, n = (k : Int) ∧ k ≤ 200 ∧ os = orderL s p k ∧ oe = 0) := by
    unfold ordR at hor
    by_cases hb : n < 0 ∨ 200 < n
    · rw [if_pos hb] at hor
      simp only [Prod.mk.injEq] at hor
      exact .inl ⟨by omega, hor.1.symm, hor.2.symm⟩
    · rw [if_neg hb] at hor
      simp only [Prod.mk.injEq] at hor
      exact .inr ⟨n.toNat, by omega, by omega, hor.1.symm, hor.2.symm⟩
  have hor' := hor
  rw [hor] at c3
  rw [hdk] at c4 hdr
  simp only [Prod.mk.injEq] at hdr
  have C3 := Lib.hid c3; clear c3
  have C4 := Lib.hid c4; clear c4
  have Hro := Lib.hid hro; clear hro
  have Hdr := Lib.hid hdr; clear hdr
  clear hor hor' hdk ht hg hs hn
  have enter : ∀ (Q : Prop), Q → Q := fun _ h => h
  go_enter Tryd.func6, Tryd.ntmps6
  go_wp2_with fail
  refine C3.out.mono ?_
  rintro e w1 ⟨A1, c1, rfl, b1, s1⟩
  have B1 := Lib.hid b1; clear b1
  go_wp2_with fail
  refine (C4.out w1).mono ?_
  rintro e w2 ⟨rfl, b2⟩
  have W2 := Lib.hid (B1.out.trans (b2.mono B1.out.size))
  have S2 := Lib.hid (s1.out.later b2)
  clear b2 s1
  go_wp2_with fail
  refine (C4.out w2).mono ?_
  rintro e w3 ⟨rfl, b3⟩
  have W3 := Lib.hid (W2.out.trans (b3.mono W2.out.size))
  have S3 := Lib.hid (S2.out.later b3)
  clear b3 S2
  have hl3 := S3.out.lenle.1
  dsimp only at S3 hl3 ⊢
  clear enter
  have hrange : (n < 0 ∨ ¬ n < 0) := by omega
  rcases Hdr.out with ⟨⟨rfl, rfl⟩, hd⟩ | ⟨k0, ⟨rfl, rfl⟩, hk0, hk1, hk2, hk3⟩
  · -- the draw has an error
    rcases Hro.out with ⟨hb, rfl, rfl⟩ | ⟨k, rfl, hk, rfl, rfl⟩
    · rcases hd with hd | ⟨hd, hd2⟩ <;> rcases hb with hb | ⟨hb, hb2⟩
      all_goals first
        | (exfalso; omega)
        | (go_wp2_with fail
           refine (Out.out _ W3.out).mono ?_
           rintro e w7 ⟨rfl, b7⟩
           go_wp2
           go_ret
           exact ⟨rfl, b7.out⟩)
    · obtain rfl : k = 0 := by rcases hd with hd | ⟨hd, hd2⟩ <;> omega
      have hll : (orderL s p 0).length = 0 := orderL_length s p 0
      have hmk := makeB0
      rw [hll]
      have Hll := Lib.hid hll; clear hll
      clear hd hrange
      go_wp2
      go_loopw [14] (fun i wr => i = .int .i64 0 ∧ Hid (Below w3.heap.size w3 wr)) (fun _ _ => 0)
      case atStart => exact ⟨rfl, (Below.refl _ _).alloc (Nat.le_refl _) _⟩
      case round =>
        obtain ⟨rfl, hb⟩ := hrel
        have hbf : Below w.heap.size w wr := W3.out.trans (hb.out.mono W3.out.size)
        go_wp2_with fail
        refine (Out.out _ hbf).mono ?_
        rintro e w7 ⟨rfl, b7⟩
        go_wp2
        go_ret
        exact ⟨rfl, b7.out⟩
  · rcases Hro.out with ⟨hb, rfl, rfl⟩ | ⟨k, rfl, hk, rfl, rfl⟩
    · have h3 : 200 < n := by omega
      have h4 : ¬ n < 0 := by omega
      clear hb hrange
      go_wp2_with fail
      refine (Out.out _ W3.out).mono ?_
      rintro e w7 ⟨rfl, b7⟩
      go_wp2
      go_ret
      exact ⟨rfl, b7.out⟩
    · clear hrange
      have hll := orderL_length s p k
      have hmk := fun (wx : World) => run_make_row' (P := Tryd.prog) 41 4 (.bool false) 1 Tryd.underlying41 info_boolT rfl .i64 .i64 k (by omega) (by omega) wx
      simp only [cellsB_made] at hmk
      have hpm := perm_ordN s p k
      rw [hll]
      have Hll := Lib.hid hll; clear hll
      have Hpm := Lib.hid hpm; clear hpm
      go_wp2
      go_loopw [14] (fun i wr => ∃ j : Nat, j ≤ k ∧ i = .int .i64 j ∧ Hid (Below w3.heap.size w3 wr) ∧ w3.heap.size < wr.heap.size ∧ ∃ f : Nat → Bool, Hid (Blk wr w3.heap.size 4 (cellsB k f)) ∧ Hid (∀ v, f v = true → ∃ i, i < j ∧ ordN s p k i = v)) (fun i _ => k - (intOf i).toNat)
      case atStart => exact ⟨0, Nat.zero_le _, rfl, (Below.refl _ _).alloc (Nat.le_refl _) _, by simp, _, Blk.new _ _ _, fun v hv => by cases hv⟩
      case round =>
        obtain ⟨j, hj, rfl, hb, hsz, f, hbl, hf⟩ := hrel
        by_cases hlt : j < k
        · obtain ⟨b1, o1, x, hd, rfl, _, hc1, _⟩ := (S3.out.keep (w' := wr) fun q hq => hb.out.block q hq).getI (i := j) (by rw [Hll.out]; exact hlt)
          obtain ⟨hx, _⟩ := orderL_drop hd.out
          obtain ⟨v, hv⟩ : ∃ v, ordN s p k j = v := ⟨_, rfl⟩
          rw [hv] at hx
          subst hx
          have hvk : v < k := by rw [← hv]; exact Hpm.out.lt j hlt
          have hfv : f v = false := by
            cases hfv : f v
            · rfl
            · obtain ⟨i, hi, he⟩ := hf.out v hfv
              have := Hpm.out.inj i j (by omega) hlt (by rw [he, hv])
              omega
          have hcb := (hbl.out.cell v).trans (cellsB_get f hvk)
          rw [hfv] at hcb
          have hfr := hbl.out.free v
          have hset := hbl.out.set v (.bool true)
          rw [cellsB_set] at hset
          have hbs : Below w3.heap.size w3 (wr.setCell ⟨w3.heap.size, v, none⟩ (.bool true)) := hb.out.setCell (Nat.le_refl _) _
          have hv0 : (0 : Int) ≤ (v : Int) := Int.natCast_nonneg _
          have hv1 : (v : Int) < (k : Int) := Int.ofNat_lt.2 hvk
          have hf2 : ∀ u, (if u = v then true else f u) = true → ∃ i, i < j + 1 ∧ ordN s p k i = u := fun u hu => by
            by_cases he : u = v
            · exact ⟨j, by omega, by rw [hv, he]⟩
            · rw [if_neg he] at hu
              obtain ⟨i, hi, hi2⟩ := hf.out u hu
              exact ⟨i, by omega, hi2⟩
          have Hset := Lib.hid hset; clear hset
          have Hbs := Lib.hid hbs; clear hbs
          have Hf2 := Lib.hid hf2; clear hf2
          have Hv := Lib.hid hv; clear hv
          have Hfv := Lib.hid hfv; clear hfv
          go_wp2
          go_roundw
          case rel => exact ⟨j + 1, by omega, by go_num, Hbs, by simpa [World.setCell] using hsz, _, Hset, Hf2⟩
          case measure => simp [intOf]; omega
        · have hbf : Below w.heap.size w wr := W3.out.trans (hb.out.mono W3.out.size)
          go_wp2_with fail
          refine (Out.out _ hbf).mono ?_
          rintro e w7 ⟨rfl, b7⟩
          go_wp2
          go_ret
          exact ⟨rfl, b7.out⟩
end Go.Proofs.YtcdmmejicmbagaaDoor
