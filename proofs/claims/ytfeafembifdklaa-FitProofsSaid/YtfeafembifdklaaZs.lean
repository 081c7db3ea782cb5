/-
  Layer 43: the walk of the search for a certificate (the closure in Prove).
-/
import Derived.Test.YtfeafembifdklaaZr
import Derived.Deep.RegionLaw
namespace Go.Proofs.Ytfeafembifdklaa
open Go.RowKit Go.Sort


set_option maxRecDepth 100000 in
set_option maxHeartbeats 8000000 in
theorem look_leaf (f : Fit) (least : Int) (B po pf pl pk : Nat) (A1 : Option Addr) (c1 : Nat) (A2 : Option Addr) (c2 : Nat) (A3 : Option Addr) (c3 : Nat) (A4 : Option Addr) (c4 : Nat) (N : Nat) (lo hi : List Int) (B1 : Option Addr) (d1 : Nat) (B2 : Option Addr) (d2 : Nat) (w : World) (A : Option Addr) (n c : Nat) (out : List Cub)
    (hat : LookAt f least B po pf pl pk (.func (.func 15) #[] #[.pointer (some ⟨po, 0, none⟩), .pointer (some ⟨pf, 0, none⟩), .pointer (some ⟨pl, 0, none⟩), .pointer (some ⟨pk, 0, none⟩)]) A1 c1 A2 c2 A3 c3 A4 c4 w A n c out) (hl : SlAt (pI .i64) (Side po (.slice A n c) w) w B1 d1 lo) (hh : SlAt (pI .i64) (Side po (.slice A n c) w) w B2 d2 hi) (hok : CubOk f lo hi) (hend : 2000 < out.length ∨ least ≤ boundF f.terms f.goals lo hi) (ho : out.length ≤ 2001) :
    Calls Try.prog 15 #[.agg #[.slice B1 lo.length d1, .slice B2 hi.length d2], .pointer (some ⟨po, 0, none⟩), .pointer (some ⟨pf, 0, none⟩), .pointer (some ⟨pl, 0, none⟩), .pointer (some ⟨pk, 0, none⟩)] w (LookPost f least B po pf pl pk (.func (.func 15) #[] #[.pointer (some ⟨po, 0, none⟩), .pointer (some ⟨pf, 0, none⟩), .pointer (some ⟨pl, 0, none⟩), .pointer (some ⟨pk, 0, none⟩)]) A1 c1 A2 c2 A3 c3 A4 c4 w (.slice A n c) (lookF f least (N + 1) lo hi out)) := by
  have hlen : out.length = n := hat.own.sl'.1
  have m1 := hl.lenle
  have m2 := hh.lenle
  obtain ⟨W0, hW0⟩ : ∃ W0, W0 = w.alloc (.cells #[.slice B1 lo.length d1, .slice B2 hi.length d2] 40) := ⟨_, rfl⟩
  have hb0 : Below w.heap.size w W0 := by rw [hW0]; exact (Below.refl _ _).alloc (Nat.le_refl _) _
  have hz0 : w.heap.size + 1 ≤ W0.heap.size := by rw [hW0]; simp
  have hl0 : w.heap.size < W0.heap.size := by omega
  have hbl0 : Blk W0 w.heap.size 40 #[.slice B1 lo.length d1, .slice B2 hi.length d2] := by rw [hW0]; exact Blk.new _ _ _
  have hat0 := hat.below hb0
  have hk0 := LookKept.below (po := po) (v := .slice A n c) hat.sz hb0
  have hlo0 := side_sl hl hk0
  have hhi0 := side_sl hh hk0
  have hcells : ∀ W : World, Below W0.heap.size W0 W → W.cell? ⟨w.heap.size, 0, none⟩ = some (.slice B1 lo.length d1) ∧ W.cell? ⟨w.heap.size, 1, none⟩ = some (.slice B2 hi.length d2) ∧ W.cell? ⟨po, 0, none⟩ = some (.slice A n c) ∧ W.cell? ⟨pl, 0, none⟩ = some (.int .i64 least) ∧ W.cell? ⟨pk, 0, none⟩ = some (.func (.func 15) #[] #[.pointer (some ⟨po, 0, none⟩), .pointer (some ⟨pf, 0, none⟩), .pointer (some ⟨pl, 0, none⟩), .pointer (some ⟨pk, 0, none⟩)]) ∧
      W.cell? ⟨pf, 0, none⟩ = some (.slice A1 f.lo.length c1) ∧ W.cell? ⟨pf, 1, none⟩ = some (.slice A2 f.hi.length c2) ∧ W.cell? ⟨pf, 2, none⟩ = some (.slice A3 f.terms.length c3) ∧ W.cell? ⟨pf, 3, none⟩ = some (.slice A4 f.goals.length c4) := fun W hW => by
    have h1 := (hbl0.same (hW.block _ (by omega))).two
    have h2 := hat0.below hW
    exact ⟨h1.1, h1.2, h2.bo.cell 0, h2.bl.cell 0, h2.bk.cell 0, h2.bf.four⟩
  have hlt := hat.lt
  have Hat := Lib.hid hat; clear hat
  have Hat0 := Lib.hid hat0; clear hat0
  have Hk0 := Lib.hid hk0; clear hk0
  have Hlo0 := Lib.hid hlo0; clear hlo0
  have Hhi0 := Lib.hid hhi0; clear hhi0
  have Hcells := Lib.hid hcells; clear hcells
  have Hb0 := Lib.hid hb0; clear hb0
  have Hbl0 := Lib.hid hbl0; clear hbl0
  have HW0 := Lib.hid hW0; clear hW0
  have Hok := Lib.hid hok; clear hok
  have Hend := Lib.hid hend; clear hend
  clear hl hh
  by_cases hbig : 2000 < n
  · have hr : lookF f least (N + 1) lo hi out = out := by unfold lookF; rw [if_pos (by omega)]
    have Hr := Lib.hid hr; clear hr
    have Hlen := Lib.hid hlen; clear hlen
    go_enter Try.func15, Try.ntmps15
    obtain ⟨y0, y1, y2, y3, y4, y5, y6, y7, y8⟩ := Hcells.out W0 (Below.refl _ _)
    have y2' := Hat.out.bo.cell 0
    go_wp2
    go_end0
    exact ⟨rfl, A, n, c, by rw [Hr.out, ← HW0.out]; exact Hat0.out, by rw [← HW0.out]; exact Hk0.out⟩
  · have hlc : ∀ (q : Nat) (os : Array Obj), Calls Try.prog 16 #[.agg #[.slice A1 f.lo.length c1, .slice A2 f.hi.length c2, .slice A3 f.terms.length c3, .slice A4 f.goals.length c4], .agg #[.slice B1 lo.length d1, .slice B2 hi.length d2]] (grow (redrawn W0 q) os) fun e w'' => e = .returned (.int .i64 (boundF f.terms f.goals lo hi)) ∧ ∃ p : Regrown, w'' = grow (redrawn W0 p.d) p.os := fun q os =>
      have hg := below_regrown W0 q os
      Calls.regrown_of (lower_calls f A1 c1 A2 c2 A3 c3 A4 c4 lo hi B1 d1 B2 d2 _ (Hat0.out.fit.old.later hg) ((side_old Hlo0.out).later hg) ((side_old Hhi0.out).later hg) Hok.out)
    obtain ⟨bv, hbv⟩ : ∃ bv, boundF f.terms f.goals lo hi = bv := ⟨_, rfl⟩
    rw [hbv] at hlc
    have Hlc := Lib.hid hlc; clear hlc
    have Hbv := Lib.hid hbv; clear hbv
    have Hlen := Lib.hid hlen; clear hlen
    go_enter Try.func15, Try.ntmps15
    have y2' := Hat.out.bo.cell 0
    go_wp2
    rw [← HW0.out]
    clear y2'
    obtain ⟨y0, y1, y2, y3, y4, y5, y6, y7, y8⟩ := Hcells.out W0 (Below.refl _ _)
    have k0 := cell_regrown y0
    have k1 := cell_regrown y1
    have k3 := cell_regrown y3
    have k5 := cell_regrown y5
    have k6 := cell_regrown y6
    have k7 := cell_regrown y7
    have k8 := cell_regrown y8
    clear y0 y1 y2 y3 y4 y5 y6 y7 y8
    refine wp_region_quiet_below (by kernel_rfl) (by kernel_rfl) ?_
    repeat (quiet_step (exact Hlc.out _ _))
    refine wpQuiet_nil ?_
    intro _ hw'
    obtain ⟨⟨dq, osq⟩, hw''⟩ := hw'
    subst hw''
    have hbr := below_regrown W0 dq osq
    generalize grow (redrawn W0 dq) osq = w1 at hbr ⊢
    have hz1 := hbr.size
    have Hbr := Lib.hid hbr; clear hbr
    clear k0 k1 k3 k5 k6 k7 k8
    have hge : least ≤ bv := by
      rcases Hend.out with h1 | h1
      · have := Hlen.out; omega
      · rw [Hbv.out] at h1; exact h1
    have hr : lookF f least (N + 1) lo hi out = out ++ [⟨lo, hi⟩] := by
      have := Hlen.out
      unfold lookF; rw [if_neg (by omega), if_pos (by rw [Hbv.out]; exact hge)]
    have hat1 := Hat0.out.below Hbr.out
    have hl1 := (side_old Hlo0.out).later Hbr.out
    have hh1 := (side_old Hhi0.out).later Hbr.out
    have hlol : lo ≠ [] := by
      intro e; have h1 := Hok.out.l; have h2 := (valid_parts Hok.out.v).1
      rw [← h1, e] at h2; simp at h2
    have hhil : hi ≠ [] := by
      intro e; have h1 := Hok.out.h; have h2 := (valid_parts Hok.out.v).1
      rw [← h1, e] at h2; simp at h2
    have hl4 : lo.length ≤ 4 := by rw [Hok.out.l]; exact (valid_parts Hok.out.v).2.1
    have hh4 : hi.length ≤ 4 := by rw [Hok.out.h]; exact (valid_parts Hok.out.v).2.1
    have cp : ∀ (B3 : Option Addr) (d3 : Nat) (xs : List Int) (W : World), SlAt (pI .i64) (Old w1) w1 B3 d3 xs → xs ≠ [] → xs.length ≤ 4 → Below w1.heap.size w1 W → Calls Try.prog 17 #[.slice B3 xs.length d3] W (CopyPostU xs xs.length w1 W) := fun B3 d3 xs W hs hne h4 hW =>
      (clone_calls B3 d3 xs W (hs.later hW) hne (by omega)).mono fun e W' ⟨A, c, he, ho, hb⟩ => by
        obtain ⟨A', c', h3, h4⟩ := (ho.flat (pI_flat _) (G' := (W.heap.size ≤ ·))).fresh
        cases h3
        exact ⟨A, c, he, rfl, hW.trans (hb.mono hW.size), hb, h4.wide fun k hk => ⟨Nat.le_trans hW.size hk.1, hk.2⟩, fun _ b o hA => by subst hA; exact own_unf ho⟩
    have hclo : ∀ W, Below w1.heap.size w1 W → Calls Try.prog 17 #[.slice B1 lo.length d1] W (CopyPostU lo lo.length w1 W) := fun W hW => cp B1 d1 lo W hl1 hlol hl4 hW
    have hchi : ∀ W, Below w1.heap.size w1 W → Calls Try.prog 17 #[.slice B2 hi.length d2] W (CopyPostU hi hi.length w1 W) := fun W hW => cp B2 d2 hi W hh1 hhil hh4 hW
    have hplt := hat1.lt
    have hwl1 : w.heap.size < w1.heap.size := by omega
    have sk : ∀ W, Below w1.heap.size w1 W → W.cell? ⟨w.heap.size, 0, none⟩ = some (.slice B1 lo.length d1) ∧ W.cell? ⟨w.heap.size, 1, none⟩ = some (.slice B2 hi.length d2) ∧ W.cell? ⟨po, 0, none⟩ = some (.slice A n c) := fun W hW => by
      have h1 := Hcells.out W (Hbr.out.trans (hW.mono hz1))
      exact ⟨h1.1, h1.2.1, h1.2.2.1⟩
    have hnw : some w.heap.size ≠ (Value.slice A n c).ownBlock := fun e => by have := (Hat.out.own.lt _ e.symm).2; omega
    have sk8 : ∀ (W w8 : World) (v' : Value), Below w1.heap.size w1 W → Grew B W w8 (.slice A n c) v' → w8.cell? ⟨w.heap.size, 0, none⟩ = some (.slice B1 lo.length d1) ∧ w8.cell? ⟨w.heap.size, 1, none⟩ = some (.slice B2 hi.length d2) ∧ w8.cell? ⟨po, 0, none⟩ = some (.slice A n c) := fun W w8 v' hW hg => by
      have h1 := sk W hW
      have e1 := hg.oth w.heap.size (Nat.lt_of_lt_of_le hwl1 hW.size) hnw
      have e2 := hg.oth po (Nat.lt_of_lt_of_le hplt hW.size) (fun e => hat1.pn e.symm)
      exact ⟨(cell_keep e1).trans h1.1, (cell_keep e1).trans h1.2.1, (cell_keep e2).trans h1.2.2⟩
    have sk10 : ∀ (W w8 : World) (v' u : Value), Below w1.heap.size w1 W → Grew B W w8 (.slice A n c) v' → (w8.setCell ⟨po, 0, none⟩ u).cell? ⟨w.heap.size, 0, none⟩ = some (.slice B1 lo.length d1) ∧ (w8.setCell ⟨po, 0, none⟩ u).cell? ⟨w.heap.size, 1, none⟩ = some (.slice B2 hi.length d2) := fun W w8 v' u hW hg => by
      have h1 := sk8 W w8 v' hW hg
      have e1 := Below.heap_setCell w8 ⟨po, 0, none⟩ u w.heap.size (by show w.heap.size ≠ po; omega)
      exact ⟨(cell_keep e1).trans h1.1, (cell_keep e1).trans h1.2.1⟩
    have sk9 : ∀ (W w8 : World) (v' : Value), Below w1.heap.size w1 W → Grew B W w8 (.slice A n c) v' → Blk w8 po 26 #[.slice A n c] := fun W w8 v' hW hg =>
      (hat1.bo.same (hW.block _ hplt)).same (hg.oth po (Nat.lt_of_lt_of_le hplt hW.size) (fun e => hat1.pn e.symm))
    have leaf : ∀ (W : World) (A6 : Option Addr) (c6 : Nat) (A7 : Option Addr) (c7 : Nat), Below w1.heap.size w1 W → SlU (fun k => w1.heap.size ≤ k ∧ k < W.heap.size) W A6 c6 lo → SlU (fun k => w1.heap.size ≤ k ∧ k < W.heap.size) W A7 c7 hi →
        Own pCubF 40 B (fun k => B ≤ k ∧ k ≠ po) (W.alloc (.cells #[.slice A6 lo.length c6, .slice A7 hi.length c7] 40)) (.slice A n c) out ∧
        SlAt pCubF (fun k => (w1.heap.size ≤ k ∧ k < W.heap.size) ∨ k = W.heap.size) (W.alloc (.cells #[.slice A6 lo.length c6, .slice A7 hi.length c7] 40)) (some ⟨W.heap.size, 0, none⟩) 1 [⟨lo, hi⟩] ∧
        (∀ k, ((w1.heap.size ≤ k ∧ k < W.heap.size) ∨ k = W.heap.size) → (B ≤ k ∧ k ≠ po) ∧ k < (W.alloc (.cells #[.slice A6 lo.length c6, .slice A7 hi.length c7] 40)).heap.size ∧ some k ≠ (Value.slice A n c).ownBlock) ∧
        B ≤ (W.alloc (.cells #[.slice A6 lo.length c6, .slice A7 hi.length c7] 40)).heap.size := fun W A6 c6 A7 c7 hW h6 h7 => by
      have hzW := hW.size
      have hB := hat1.sz
      refine ⟨(hat1.own.later hW).alloc _, sl_boxed (E := pCubF) (u := .agg #[.slice A6 lo.length c6, .slice A7 hi.length c7]) (F := fun k => w1.heap.size ≤ k ∧ k < W.heap.size) ⟨A6, c6, A7, c7, by simp [Value.cells], h6, h7⟩ (fun k hk => hk.2), fun k hk => ⟨⟨by omega, by omega⟩, by simp; omega, fun e => ?_⟩, by simp; omega⟩
      have := (hat1.own.lt _ e.symm).2
      omega
    have hbase : Below w1.heap.size w1 w1.drew := below_drew (Below.refl _ _)
    have hln : (out ++ ([⟨lo, hi⟩] : List Cub)).length = n + 1 := by have := Hlen.out; simp; omega
    have hroom : Room (n + 1) := room_of (by omega)
    obtain ⟨y0, y1, y2⟩ := sk w1 (Below.refl _ _)
    obtain ⟨_, _, _, y3, _, _, _, _, _⟩ := Hcells.out w1 Hbr.out
    have Hr := Lib.hid hr; clear hr
    have Hat1 := Lib.hid hat1; clear hat1
    have Hl1 := Lib.hid hl1; clear hl1
    have Hh1 := Lib.hid hh1; clear hh1
    have Hclo := Lib.hid hclo; clear hclo
    have Hchi := Lib.hid hchi; clear hchi
    have Sk := Lib.hid sk; clear sk
    have Sk8 := Lib.hid sk8; clear sk8
    have Sk9 := Lib.hid sk9; clear sk9
    have Sk10 := Lib.hid sk10; clear sk10
    have Leaf := Lib.hid leaf; clear leaf
    have Hln := Lib.hid hln; clear hln
    have Hroom := Lib.hid hroom; clear hroom
    have Hnw := Lib.hid hnw; clear hnw
    have Cp := Lib.hid cp; clear cp
    go_wp2
    have skA : ∀ W, Below w1.heap.size w1 W → ∀ o : Obj, (W.alloc o).cell? ⟨po, 0, none⟩ = some (.slice A n c) := fun W hW o => (Sk.out _ (hW.alloc hW.size o)).2.2
    have SkA := Lib.hid skA; clear skA
    go_region_law
      (first
        | ((have h6 : SlU (fun k => w1.heap.size ≤ k ∧ k < wv.heap.size) wv A6 c6 lo := by first | exact hs6 | exact slU_later hs6 hC3); (have h7 : SlU (fun k => w1.heap.size ≤ k ∧ k < wv.heap.size) wv A7 c7 hi := by first | exact hs7 | exact slU_later hs7 hC2); refine step_catG (E := pCubF) (xs := out) 26 40 (.agg #[.slice none 0 0, .slice none 0 0]) 48 (.tmp 18) (.tmp 26) rfl rfl Try.underlying26 info_cub rfl (by decide) rfl (Leaf.out wv A6 c6 A7 c7 hB1 h6 h7).1 _ 1 [⟨lo, hi⟩] rfl _ (Leaf.out wv A6 c6 A7 c7 hB1 h6 h7).2.1 (Leaf.out wv A6 c6 A7 c7 hB1 h6 h7).2.2.1 (n + 1) Hln.out Hroom.out (by decide) (Leaf.out wv A6 c6 A7 c7 hB1 h6 h7).2.2.2 ?_; intro A8 c8 w8 hown8 hg8; have hfz8 := (Sk9.out _ _ _ (hB1.alloc hB1.size _) hg8.out).free 0; have hp8 := (Sk8.out _ _ _ (hB1.alloc hB1.size _) hg8.out).2.2)
        | (go_simp; go_at_call 17; refine (Hclo.out _ ?_).mono ?_; (first | assumption | simp [*]); rintro e wv ⟨A6, c6, rfl, _, hB1, hC2, hs6⟩; have hpo := Sk.out _ hB1; have hpa := SkA.out _ hB1)
        | (go_simp; go_at_call 17; refine (Hchi.out _ ?_).mono ?_; (first | assumption | simp [*]); rintro e wv ⟨A7, c7, rfl, _, hB1, hC3, hs7⟩; have hpo := Sk.out _ hB1; have hpa := SkA.out _ hB1))
    all_goals
      have hgrow := look_grow Hat1.out (hB1.alloc hB1.size _) hg8.out hown8.out
      go_wp2
      go_end0
      exact ⟨rfl, _, _, _, by rw [Hr.out]; exact hgrow.1, (Hk0.out.trans (LookKept.below Hat0.out.sz Hbr.out)).trans hgrow.2⟩
end Go.Proofs.Ytfeafembifdklaa
