/-
  Layer 43: the walk of FitShifts.
-/
import Derived.Test.YtcdplnikpbbomaaUb
import Derived.Test.YtcdplnikpbbomaaUe
import Derived.Test.YtcdplnikpbbomaaUf
import Derived.Test.YtcdplnikpbbomaaUi
import Derived.Test.YtcdplnikpbbomaaUk
import Derived.Deep.RegionLaw
import Derived.Deep.DeepCutAuto
namespace Go.Proofs.Ytcdplnikpbbomaa
open Go.RowKit Go.Sort
set_option linter.unusedVariables false



theorem info_frmZ : (Try.prog.info? 57).map (fun i => (i.zero, i.size, i.bytes)) = some (some (.agg #[.int .i64 0, .slice none 0 0]), 2, 32) := by kernel_rfl
theorem info_intY : (Try.prog.info? 3).map (fun i => (i.zero, i.size, i.bytes)) = some (some (.int .i64 0), 1, 8) := by kernel_rfl
def LessA (f : Fit) (kn : Nat) (w10 : World) (A1 : Option Addr) (c1 : Nat) (A2 : Option Addr) (c2 : Nat) (A4 : Option Addr) (c4 : Nat) (wx : World) : Prop :=
  Below w10.heap.size w10 wx ∧ ∃ A c, Blk wx w10.heap.size 25 #[.slice A1 f.lo.length c1, .slice A2 f.hi.length c2, .slice A (f.terms.length - 1) c, .slice A4 f.goals.length c4] ∧ SlAt pFrm (fun k => k < wx.heap.size ∧ k ≠ w10.heap.size) wx A c (lessF f kn).terms
def LessB (f : Fit) (kn : Nat) (w10 : World) (A1 : Option Addr) (c1 : Nat) (A2 : Option Addr) (c2 : Nat) (wx : World) : Prop :=
  Below w10.heap.size w10 wx ∧ ∃ A c A' c', Blk wx w10.heap.size 25 #[.slice A1 f.lo.length c1, .slice A2 f.hi.length c2, .slice A (f.terms.length - 1) c, .slice A' (f.goals.length - 1) c'] ∧ SlAt pFrm (fun k => k < wx.heap.size ∧ k ≠ w10.heap.size) wx A c (lessF f kn).terms ∧
    SlAt (pI .i64) (fun k => k < wx.heap.size ∧ k ≠ w10.heap.size) wx A' c' (lessF f kn).goals
theorem less_a {f : Fit} {kn : Nat} {w10 w11 w13 : World} {A1 : Option Addr} {c1 : Nat} {A2 : Option Addr} {c2 : Nat} {A3 : Option Addr} {c3 : Nat} {A4 : Option Addr} {c4 : Nat} {A13 : Option Addr} {c13 : Nat} {w1 : World} {t : TypeId} (hlt : w10.heap.size < w11.heap.size) (hb : Below w10.heap.size w10 w11)
    (hz : Below w11.heap.size w11 w13 ∧ Blk w13 w10.heap.size 25 #[.slice A1 f.lo.length c1, .slice A2 f.hi.length c2, .slice A3 f.terms.length c3, .slice A4 f.goals.length c4]) (ho : Own pFrm t w11.heap.size (Old w1) w13 (.slice A13 (f.terms.length - 1) c13) (([] ++ f.terms.take kn) ++ f.terms.drop (kn + 1))) (h1 : w1.heap.size ≤ w10.heap.size) :
    LessA f kn w10 A1 c1 A2 c2 A4 c4 (w13.setCell ⟨w10.heap.size, 2, none⟩ (.slice A13 (f.terms.length - 1) c13)) := by
  obtain ⟨hl, hs⟩ := ho.sl'
  refine ⟨(hb.trans (hz.1.mono hb.size)).setCell (Nat.le_refl _) _, A13, c13, hz.2.set 2 _, ?_⟩
  have hs' : SlAt pFrm (fun k => (Old w1 k ∨ w11.heap.size ≤ k) ∧ k < w13.heap.size) w13 A13 c13 (lessF f kn).terms := hs
  refine (hs'.keep (w' := w13.setCell ⟨w10.heap.size, 2, none⟩ (.slice A13 (f.terms.length - 1) c13)) fun k hk => set_oth ?_).wide fun k hk => ⟨by rw [set_size]; exact hk.2, ?_⟩ <;>
    (show k ≠ w10.heap.size
     rcases hk.1 with h | h
     · have : k < w1.heap.size := h
       omega
     · omega)
theorem less_b {f : Fit} {kn : Nat} {w10 w11 w13 : World} {A1 : Option Addr} {c1 : Nat} {A2 : Option Addr} {c2 : Nat} {A3 : Option Addr} {c3 : Nat} {A4 : Option Addr} {c4 : Nat} {A13 : Option Addr} {c13 : Nat} {w1 : World} {t : TypeId} (hlt : w10.heap.size < w11.heap.size) (hb : Below w10.heap.size w10 w11)
    (hz : Below w11.heap.size w11 w13 ∧ Blk w13 w10.heap.size 25 #[.slice A1 f.lo.length c1, .slice A2 f.hi.length c2, .slice A3 (f.terms.length - 1) c3, .slice A4 f.goals.length c4]) (ho : Own (pI .i64) t w11.heap.size (Old w1) w13 (.slice A13 (f.goals.length - 1) c13) (([] ++ f.goals.take kn) ++ f.goals.drop (kn + 1))) (h1 : w1.heap.size ≤ w10.heap.size)
    (hs3 : SlAt pFrm (fun k => k < w11.heap.size ∧ k ≠ w10.heap.size) w11 A3 c3 (lessF f kn).terms) :
    LessB f kn w10 A1 c1 A2 c2 (w13.setCell ⟨w10.heap.size, 3, none⟩ (.slice A13 (f.goals.length - 1) c13)) := by
  obtain ⟨hl, hs⟩ := ho.sl'
  have hzz := hz.1.size
  refine ⟨(hb.trans (hz.1.mono hb.size)).setCell (Nat.le_refl _) _, A3, c3, A13, c13, hz.2.set 3 _, ?_, ?_⟩
  · refine (hs3.keep (w' := w13.setCell ⟨w10.heap.size, 3, none⟩ (.slice A13 (f.goals.length - 1) c13)) fun k hk => (set_oth (show k ≠ w10.heap.size from hk.2)).trans (hz.1.block k hk.1)).wide fun k hk => ⟨by rw [set_size]; omega, hk.2⟩
  · have hs' : SlAt (pI .i64) (fun k => (Old w1 k ∨ w11.heap.size ≤ k) ∧ k < w13.heap.size) w13 A13 c13 (lessF f kn).goals := hs
    refine (hs'.keep (w' := w13.setCell ⟨w10.heap.size, 3, none⟩ (.slice A13 (f.goals.length - 1) c13)) fun k hk => set_oth ?_).wide fun k hk => ⟨by rw [set_size]; exact hk.2, ?_⟩ <;>
      (show k ≠ w10.heap.size
       rcases hk.1 with h | h
       · have : k < w1.heap.size := h
         omega
       · omega)
set_option maxRecDepth 100000 in
set_option maxHeartbeats 16000000 in
theorem fitShifts_walk (f : Fit) (A1 : Option Addr) (c1 : Nat) (A2 : Option Addr) (c2 : Nat) (A3 : Option Addr) (c3 : Nat) (A4 : Option Addr) (c4 : Nat) (k bb : Int) (w : World) (hk : Fits .i64 k) (hbb : Fits .i64 bb) (h : FitAt f (Old w) w A1 c1 A2 c2 A3 c3 A4 c4) :
    Calls Try.prog 9 #[.agg #[.slice A1 f.lo.length c1, .slice A2 f.hi.length c2, .slice A3 f.terms.length c3, .slice A4 f.goals.length c4], .int .i64 k, .int .i64 bb] w (OkPost w) := by
  have hkf := hk.i64
  have hbf := hbb.i64
  have m3 := h.t.lenle
  have m4 := h.g.lenle
  obtain ⟨W0, hW0⟩ : ∃ W0, W0 = w.alloc (.cells #[.slice A1 f.lo.length c1, .slice A2 f.hi.length c2, .slice A3 f.terms.length c3, .slice A4 f.goals.length c4] 25) := ⟨_, rfl⟩
  have hb0 : Below w.heap.size w W0 := by rw [hW0]; exact (Below.refl _ _).alloc (Nat.le_refl _) _
  have hz0 : w.heap.size + 1 ≤ W0.heap.size := by rw [hW0]; simp
  have hl0 : w.heap.size < W0.heap.size := by omega
  have hbl0 : Blk W0 w.heap.size 25 #[.slice A1 f.lo.length c1, .slice A2 f.hi.length c2, .slice A3 f.terms.length c3, .slice A4 f.goals.length c4] := by rw [hW0]; exact Blk.new _ _ _
  have h0 := h.later hb0
  have cells : ∀ W : World, Below W0.heap.size W0 W → (W.cell? ⟨w.heap.size, 0, none⟩ = some (.slice A1 f.lo.length c1) ∧ W.cell? ⟨w.heap.size, 1, none⟩ = some (.slice A2 f.hi.length c2) ∧ W.cell? ⟨w.heap.size, 2, none⟩ = some (.slice A3 f.terms.length c3) ∧ W.cell? ⟨w.heap.size, 3, none⟩ = some (.slice A4 f.goals.length c4)) := fun W hW => (hbl0.same (hW.block _ hl0)).four
  have fin : ∀ W e W', Below W0.heap.size W0 W → BoolPost true W e W' → OkPost w e W' := fun W e W' hW ⟨he, hb⟩ => ⟨he, hb0.trans ((hW.trans (hb.mono hW.size)).mono (by omega))⟩
  have H0 := Lib.hid h0; clear h0
  have Hb0 := Lib.hid hb0; clear hb0
  have Hbl0 := Lib.hid hbl0; clear hbl0
  have HW0 := Lib.hid hW0; clear hW0
  have Cells := Lib.hid cells; clear cells
  have Fin := Lib.hid fin; clear fin
  clear h hk hbb
  go_enter Try.func9, Try.ntmps9
  go_wp2_with fail
  rw [← HW0.out]
  refine (small_calls f A1 c1 A2 c2 A3 c3 A4 c4 W0 H0.out).mono ?_
  rintro e w1 ⟨⟨b, rfl, hs⟩, hb1⟩
  have z1 := hb1.size
  have Hb1 := Lib.hid hb1
  clear hb1
  obtain ⟨x0, x1, x2, x3⟩ := Cells.out w1 Hb1.out
  cases b
  · clear hs
    go_wp2_with fail
    refine (alive_calls w1).mono ?_
    rintro e w2 hb2
    have hf := Fin.out w1 e w2 Hb1.out hb2
    obtain ⟨rfl, _⟩ := hb2
    have Hf := Lib.hid hf; clear hf
    go_wp2
    go_ret
    exact Hf.out
  obtain ⟨hck, hm⟩ := hs rfl
  clear hs
  have Hck := Lib.hid hck; clear hck
  have Hm := Lib.hid hm; clear hm
  by_cases k0 : k < 0
  · skip
    go_wp2_with fail
    refine (alive_calls w1).mono ?_
    rintro e w2 hb2
    have hf := Fin.out w1 e w2 Hb1.out hb2
    obtain ⟨rfl, _⟩ := hb2
    have Hf := Lib.hid hf; clear hf
    go_wp2
    go_ret
    exact Hf.out
  by_cases k1 : (f.terms.length : Int) ≤ k
  · skip
    go_wp2_with fail
    refine (alive_calls w1).mono ?_
    rintro e w2 hb2
    have hf := Fin.out w1 e w2 Hb1.out hb2
    obtain ⟨rfl, _⟩ := hb2
    have Hf := Lib.hid hf; clear hf
    go_wp2
    go_ret
    exact Hf.out
  by_cases b0 : bb < -1000
  · skip
    go_wp2_with fail
    refine (alive_calls w1).mono ?_
    rintro e w2 hb2
    have hf := Fin.out w1 e w2 Hb1.out hb2
    obtain ⟨rfl, _⟩ := hb2
    have Hf := Lib.hid hf; clear hf
    go_wp2
    go_ret
    exact Hf.out
  by_cases b1 : 1000 < bb
  · skip
    go_wp2_with fail
    refine (alive_calls w1).mono ?_
    rintro e w2 hb2
    have hf := Fin.out w1 e w2 Hb1.out hb2
    obtain ⟨rfl, _⟩ := hb2
    have Hf := Lib.hid hf; clear hf
    go_wp2
    go_ret
    exact Hf.out
  obtain ⟨kn, rfl⟩ : ∃ kn : Nat, k = (kn : Int) := ⟨k.toNat, by omega⟩
  have hkl : kn < f.terms.length := by omega
  obtain ⟨b3, o3, _, _, _, _, hA3, _⟩ := (H0.out.later Hb1.out).t.getFrm hkl
  subst hA3
  obtain ⟨b4, o4, _, _, hA4, _⟩ := (H0.out.later Hb1.out).g.getI (i := kn) (by have := (valid_parts (checkFit_valid Hck.out)).2.2.2.2.1; omega)
  subst hA4
  have hv := checkFit_valid Hck.out
  obtain ⟨p1, p2, p3, p4, p5, p6, p7⟩ := valid_parts hv
  have hgl : kn < f.goals.length := by omega
  obtain ⟨t, ht⟩ : ∃ t, f.terms[kn]? = some t := ⟨_, List.getElem?_eq_getElem hkl⟩
  obtain ⟨g, hg⟩ : ∃ g, f.goals[kn]? = some g := ⟨_, List.getElem?_eq_getElem hgl⟩
  obtain ⟨o1, i2, i3⟩ := okT_iff (allT_get p7 kn t g ht hg)
  have i4 : -1000000 ≤ t.const ∧ t.const ≤ 1000000 := by
    unfold formF at o1
    simp only [Bool.and_eq_true] at o1
    exact inC_iff.1 o1.1.1
  obtain ⟨o5, o6⟩ := i4
  have hne : f.terms ≠ [] := by intro e; rw [e] at hkl; simp at hkl
  have hne2 : f.goals ≠ [] := by intro e; rw [e] at hgl; simp at hgl
  have hroom : Room f.terms.length := room_of (by omega)
  have hroom2 : Room f.goals.length := room_of (by omega)
  have hfit1 := H0.out.later Hb1.out
  have Hv := Lib.hid hv; clear hv
  have P3 := Lib.hid p3; clear p3
  have P5 := Lib.hid p5; clear p5
  have P6 := Lib.hid p6; clear p6
  have P7 := Lib.hid p7; clear p7
  have Ht := Lib.hid ht; clear ht
  have Hg := Lib.hid hg; clear hg
  have O1 := Lib.hid o1; clear o1
  have Hne := Lib.hid hne; clear hne
  have Hne2 := Lib.hid hne2; clear hne2
  have Hroom := Lib.hid hroom; clear hroom
  have Hroom2 := Lib.hid hroom2; clear hroom2
  have Hfit1 := Lib.hid hfit1; clear hfit1
  clear p1 p2 hkf k0
  -- region 3: the copy that is moved
  go_upto_region 4 with fail
  obtain ⟨w2, hw2⟩ : ∃ W, W = w1.alloc (.cells #[.slice A1 f.lo.length c1, .slice A2 f.hi.length c2, .slice (some ⟨b3, o3, none⟩) f.terms.length c3, .slice (some ⟨b4, o4, none⟩) f.goals.length c4] 25) := ⟨_, rfl⟩
  rw [← hw2]
  have hb12 : Below w1.heap.size w1 w2 := by rw [hw2]; exact al _
  have z12 : w1.heap.size + 1 ≤ w2.heap.size := by rw [hw2]; simp
  have hm2 : Blk w2 w1.heap.size 25 #[.slice A1 f.lo.length c1, .slice A2 f.hi.length c2, .slice (some ⟨b3, o3, none⟩) f.terms.length c3, .slice (some ⟨b4, o4, none⟩) f.goals.length c4] := by rw [hw2]; exact Blk.new _ _ _
  have hs3 := Hfit1.out.t.below (hb12.alloc hb12.size (.cells #[] 57))
  have hem : Own pFrm 57 w2.heap.size (Old w1) (w2.alloc (.cells #[] 57)) (.slice (some ⟨w2.heap.size, 0, none⟩) 0 0) [] := Own.empty (Nat.le_refl _)
  have hF : ∀ q, Old w1 q → Old w1 q ∧ q < (w2.alloc (.cells #[] 57)).heap.size ∧ some q ≠ (Value.slice (some ⟨w2.heap.size, 0, none⟩) 0 0).ownBlock := fun q hq => by
    have : q < w1.heap.size := hq
    exact ⟨hq, by simp; omega, fun he => by simp [Value.ownBlock] at he; omega⟩
  have hbase : w2.heap.size ≤ (w2.alloc (.cells #[] 57)).heap.size := by simp
  have hst : ∀ (v : Value) (w4 : World), Grew w2.heap.size (w2.alloc (.cells #[] 57)) w4 (.slice (some ⟨w2.heap.size, 0, none⟩) 0 0) v → Blk w4 w1.heap.size 25 #[.slice A1 f.lo.length c1, .slice A2 f.hi.length c2, .slice (some ⟨b3, o3, none⟩) f.terms.length c3, .slice (some ⟨b4, o4, none⟩) f.goals.length c4] := fun v w4 hg =>
    (hm2.alloc (.cells #[] 57)).same (hg.oth _ (by simp; omega) (fun he => by simp [Value.ownBlock] at he; omega))
  have hb02 := Hb1.out.trans (hb12.mono z1)
  obtain ⟨y0, y1, y2, y3⟩ := Cells.out (w2.alloc (.cells #[] 57)) (hb02.alloc hb02.size _)
  have Hw2 := Lib.hid hw2; clear hw2
  have Hb12 := Lib.hid hb12; clear hb12
  have Hm2 := Lib.hid hm2; clear hm2
  have Hs3 := Lib.hid hs3; clear hs3
  have Hem := Lib.hid hem; clear hem
  have HF := Lib.hid hF; clear hF
  have Hst := Lib.hid hst; clear hst
  have Hb02 := Lib.hid hb02; clear hb02
  clear x0 x1 x2 x3
  go_upto_region 5 with ((at_builtin; refine wpList_catG (E := pFrm) (xs := []) (v := .slice (some ⟨w2.heap.size, 0, none⟩) 0 0) (base := w2.heap.size) (G := Old w1) 23 57 (.agg #[.int .i64 0, .slice none 0 0]) 32 (.tmp 42) (.tmp 44) rfl rfl Try.underlying23 info_frmZ rfl (by decide) rfl Hem.out (some ⟨b3, o3, none⟩) c3 f.terms rfl (Old w1) Hs3.out HF.out f.terms.length rfl Hroom.out (by decide) hbase ?_; intro A5 c5 w4 hown hgr; have q0 := (Hst.out _ _ hgr.out).four; have q2 := (Hst.out _ _ hgr.out).free 2; obtain ⟨_, _, q1, _⟩ := q0))
  obtain ⟨w5, hw5⟩ : ∃ W, W = w4.setCell ⟨w1.heap.size, 2, none⟩ (.slice A5 f.terms.length c5) := ⟨_, rfl⟩
  rw [← hw5]
  obtain ⟨g1, rfl, hg1, _, hc5a, hc5b, hrow4⟩ := hown.out.frm Hne.out
  have hb24 : Below w2.heap.size w2 w4 := ((Below.refl _ _).alloc (Nat.le_refl _) _).trans hgr.out.bel
  have hs45 : w5.heap.size = w4.heap.size := by rw [hw5]; exact set_size
  have ho45 : ∀ k, k ≠ w1.heap.size → w5.heap[k]? = w4.heap[k]? := fun k hk => by rw [hw5]; exact set_oth hk
  have hb15 : Below w1.heap.size w1 w5 := by rw [hw5]; exact (Hb12.out.trans (hb24.mono (by omega))).setCell (Nat.le_refl _) _
  have hrow5 : FrmRow (Old w1) w5 g1 57 f.terms := hrow4.keep (by omega) fun k _ hk => ho45 k (by rcases hk with hk | hk; exact Nat.ne_of_lt hk; omega)
  have hm5 : Blk w5 w1.heap.size 25 #[.slice A1 f.lo.length c1, .slice A2 f.hi.length c2, .slice (some ⟨g1, 0, none⟩) f.terms.length c5, .slice (some ⟨b4, o4, none⟩) f.goals.length c4] := by
    have := (Hst.out _ _ hgr.out).set 2 (.slice (some ⟨g1, 0, none⟩) f.terms.length c5)
    rw [← hw5] at this; exact this
  have hb05 := Hb1.out.trans (hb15.mono z1)
  have z5 := hb15.size
  have hl5 := hrow5
  clear q1 q2 y0 y1 y2 y3 Hw2 Hs3 Hem HF Hst hbase hrow4 hown hgr hw5 ho45 Hm2 hs45
  -- region 5
  have hs6 := Hfit1.out.g.below (hb15.alloc hb15.size (.cells #[] 3))
  have hem : Own (pI .i64) 3 w5.heap.size (Old w1) (w5.alloc (.cells #[] 3)) (.slice (some ⟨w5.heap.size, 0, none⟩) 0 0) [] := Own.empty (Nat.le_refl _)
  have hF : ∀ q, Old w1 q → Old w1 q ∧ q < (w5.alloc (.cells #[] 3)).heap.size ∧ some q ≠ (Value.slice (some ⟨w5.heap.size, 0, none⟩) 0 0).ownBlock := fun q hq => by
    have : q < w1.heap.size := hq
    exact ⟨hq, by simp; omega, fun he => by simp [Value.ownBlock] at he; omega⟩
  have hbase : w5.heap.size ≤ (w5.alloc (.cells #[] 3)).heap.size := by simp
  have hlt5 : g1 < w5.heap.size := by obtain ⟨cur, h1, _⟩ := hrow5; exact h1.lt
  have hoth : ∀ (v : Value) (w7 : World), Grew w5.heap.size (w5.alloc (.cells #[] 3)) w7 (.slice (some ⟨w5.heap.size, 0, none⟩) 0 0) v → ∀ k, k < w5.heap.size → w7.heap[k]? = w5.heap[k]? := fun v w7 hg k hk =>
    (hg.oth _ (by simp; omega) (fun he => by simp [Value.ownBlock] at he; omega)).trans (Below.heap_alloc _ _ _ hk)
  have hst : ∀ (v : Value) (w7 : World), Grew w5.heap.size (w5.alloc (.cells #[] 3)) w7 (.slice (some ⟨w5.heap.size, 0, none⟩) 0 0) v → Blk w7 w1.heap.size 25 #[.slice A1 f.lo.length c1, .slice A2 f.hi.length c2, .slice (some ⟨g1, 0, none⟩) f.terms.length c5, .slice (some ⟨b4, o4, none⟩) f.goals.length c4] := fun v w7 hg =>
    hm5.same (hoth v w7 hg _ (by omega))
  obtain ⟨y0, y1, y2, y3⟩ := Cells.out (w5.alloc (.cells #[] 3)) (hb05.alloc hb05.size _)
  have Hb15 := Lib.hid hb15; clear hb15
  have Hb05 := Lib.hid hb05; clear hb05
  have Hrow5 := Lib.hid hrow5; clear hrow5
  have Hm5 := Lib.hid hm5; clear hm5
  have Hs6 := Lib.hid hs6; clear hs6
  have Hem := Lib.hid hem; clear hem
  have HF := Lib.hid hF; clear hF
  have Hst := Lib.hid hst; clear hst
  have Hoth := Lib.hid hoth; clear hoth
  have Hb24 := Lib.hid hb24; clear hb24
  have Hl5 := Lib.hid hl5; clear hl5
  go_upto_region 6 with ((at_builtin; refine wpList_catG (E := pI .i64) (xs := []) (v := .slice (some ⟨w5.heap.size, 0, none⟩) 0 0) (base := w5.heap.size) (G := Old w1) 22 3 (.int .i64 0) 8 (.tmp 47) (.tmp 49) rfl rfl Try.underlying22 info_intY rfl (by decide) rfl Hem.out (some ⟨b4, o4, none⟩) c4 f.goals rfl (Old w1) Hs6.out HF.out f.goals.length rfl Hroom2.out (by decide) hbase ?_; intro A7 c7 w7 hown hgr; have q0 := (Hst.out _ _ hgr.out).four; have q2 := (Hst.out _ _ hgr.out).free 3; obtain ⟨_, _, _, q1⟩ := q0))
  obtain ⟨w8, hw8⟩ : ∃ W, W = w7.setCell ⟨w1.heap.size, 3, none⟩ (.slice A7 f.goals.length c7) := ⟨_, rfl⟩
  rw [← hw8]
  obtain ⟨g2, rfl, hg2, _, hc7a, hc7b, hrg7, hfg⟩ := hown.out.row Hne2.out
  have hb57 : Below w5.heap.size w5 w7 := ((Below.refl _ _).alloc (Nat.le_refl _) _).trans hgr.out.bel
  have hs78 : w8.heap.size = w7.heap.size := by rw [hw8]; exact set_size
  have ho78 : ∀ k, k ≠ w1.heap.size → w8.heap[k]? = w7.heap[k]? := fun k hk => by rw [hw8]; exact set_oth hk
  have hb18 : Below w1.heap.size w1 w8 := by rw [hw8]; exact (Hb15.out.trans (hb57.mono (by omega))).setCell (Nat.le_refl _) _
  have z57 := hb57.size
  have hrow8 : FrmRow (Old w1) w8 g1 57 f.terms := (Hrow5.out.keep (by omega) fun k hk _ => hb57.block k hk).keep (by omega) fun k _ hk => ho78 k (by rcases hk with hk | hk; exact Nat.ne_of_lt hk; omega)
  have hrg8 : RowAt w8 g2 3 f.goals := hrg7.same (ho78 _ (by omega))
  have hm8 : Blk w8 w1.heap.size 25 #[.slice A1 f.lo.length c1, .slice A2 f.hi.length c2, .slice (some ⟨g1, 0, none⟩) f.terms.length c5, .slice (some ⟨g2, 0, none⟩) f.goals.length c7] := by
    have := (Hst.out _ _ hgr.out).set 3 (.slice (some ⟨g2, 0, none⟩) f.goals.length c7)
    rw [← hw8] at this; exact this
  have hlg2 := hrg8.lt
  have hb08 := Hb1.out.trans (hb18.mono z1)
  clear q1 q2 y0 y1 y2 y3 Hs6 Hem HF Hst Hoth hbase hown hgr hw8 ho78 Hm5 hrg7 Hrow5 Hl5 hs78
  -- region 6, 7
  obtain ⟨cur, hcb, hcc⟩ := hrow8
  obtain ⟨At, ct, hfc⟩ := hcc kn t Ht.out
  have e0 : w8.cell? ⟨g1, kn * 2, none⟩ = some (.int .i64 t.const) := by rw [hcb.cell]; exact hfc.c0
  have e1 : w8.frozen? ⟨g1, kn * 2, none⟩ = false := hcb.free _
  obtain ⟨_, _, e2, _⟩ := hm8.four
  have hrow8 : FrmRow (Old w1) w8 g1 57 f.terms := ⟨cur, hcb, hcc⟩
  have hk0 : (0 : Int) ≤ (kn : Int) := Int.natCast_nonneg _
  have hk1 : (kn : Int) < (f.terms.length : Int) := by omega
  have hk2 : (kn : Int) < (f.goals.length : Int) := by omega
  have hv1 : -9223372036854775808 ≤ t.const + bb ∧ t.const + bb ≤ 9223372036854775807 := by omega
  have Hb18 := Lib.hid hb18; clear hb18
  have Hb08 := Lib.hid hb08; clear hb08
  have Hrow8 := Lib.hid hrow8; clear hrow8
  have Hrg8 := Lib.hid hrg8; clear hrg8
  have Hm8 := Lib.hid hm8; clear hm8
  have Hcb := Lib.hid hcb; clear hcb
  have Hcc := Lib.hid hcc; clear hcc
  have Hfc := Lib.hid hfc; clear hfc
  go_upto_region 7 with fail
  obtain ⟨w9, hw9⟩ : ∃ W, W = w8.setCell ⟨g1, kn * 2, none⟩ (.int .i64 (t.const + bb)) := ⟨_, rfl⟩
  rw [← hw9]
  have ho9 : ∀ k, k ≠ g1 → w9.heap[k]? = w8.heap[k]? := fun k hk => by rw [hw9]; exact set_oth hk
  have hs9 : w9.heap.size = w8.heap.size := by rw [hw9]; exact set_size
  have z25 := Hb24.out.size
  have hrow9 : FrmRow (Old w1) w9 g1 57 (f.terms.set kn (movT t bb)) := by
    have := Hrow8.out.set Ht.out (v := t.const + bb) (fits_i64 hv1)
    rw [← hw9] at this; exact this
  have hrg9 : RowAt w9 g2 3 f.goals := Hrg8.out.same (ho9 _ (by omega))
  have hm9 : Blk w9 w1.heap.size 25 #[.slice A1 f.lo.length c1, .slice A2 f.hi.length c2, .slice (some ⟨g1, 0, none⟩) f.terms.length c5, .slice (some ⟨g2, 0, none⟩) f.goals.length c7] := Hm8.out.same (ho9 _ (by omega))
  have hb19 : Below w1.heap.size w1 w9 := by rw [hw9]; exact Hb18.out.setCell (by show _ ≤ g1; omega) _
  have hv2 : -9223372036854775808 ≤ g + bb ∧ g + bb ≤ 9223372036854775807 := by omega
  have q0 := hrg9.cell Hg.out
  have q1 := hrg9.free kn
  obtain ⟨_, _, _, q2⟩ := hm9.four
  clear e0 e1 e2 hs9
  have Hw9 := Lib.hid hw9; clear hw9
  have Ho9 := Lib.hid ho9; clear ho9
  have Hrow9 := Lib.hid hrow9; clear hrow9
  have Hrg9 := Lib.hid hrg9; clear hrg9
  have Hm9 := Lib.hid hm9; clear hm9
  have Hb19 := Lib.hid hb19; clear hb19
  go_upto_region 8 with fail
  obtain ⟨w10, hw10⟩ : ∃ W, W = w9.setCell ⟨g2, kn, none⟩ (.int .i64 (g + bb)) := ⟨_, rfl⟩
  rw [← hw10]
  have ho10 : ∀ k, k ≠ g2 → w10.heap[k]? = w9.heap[k]? := fun k hk => by rw [hw10]; exact set_oth hk
  have hs10 : w10.heap.size = w9.heap.size := by rw [hw10]; exact set_size
  have hrow10 : FrmRow (Old w1) w10 g1 57 (f.terms.set kn (movT t bb)) := Hrow9.out.keep (by omega) fun k _ hk => ho10 k (by rcases hk with hk | hk; have : k < w1.heap.size := hk; omega; omega)
  have hrg10 : RowAt w10 g2 3 (f.goals.set kn (g + bb)) := by
    have := Hrg9.out.set kn (g + bb)
    rw [← hw10] at this; exact this
  have hm10 : Blk w10 w1.heap.size 25 #[.slice A1 f.lo.length c1, .slice A2 f.hi.length c2, .slice (some ⟨g1, 0, none⟩) f.terms.length c5, .slice (some ⟨g2, 0, none⟩) f.goals.length c7] := Hm9.out.same (ho10 _ (by omega))
  have hb110 : Below w1.heap.size w1 w10 := by rw [hw10]; exact Hb19.out.setCell (by show _ ≤ g2; omega) _
  have hfit10 : FitAt f (Old w1) w10 A1 c1 A2 c2 (some ⟨b3, o3, none⟩) c3 (some ⟨b4, o4, none⟩) c4 := Hfit1.out.below hb110
  have hfg2 : ∀ x ∈ f.goals.set kn (g + bb), Fits .i64 x := fun x hx => by
    rcases List.mem_or_eq_of_mem_set hx with hx | hx
    · exact hfg x hx
    · rw [hx]; exact fits_i64 hv2
  have hmov : FitAt (movF f kn t g bb) (Old w10) w10 A1 c1 A2 c2 (some ⟨g1, 0, none⟩) c5 (some ⟨g2, 0, none⟩) c7 := by
    have hz := hb110.size
    refine ⟨hfit10.l.wide fun q hq => ?_, hfit10.h.wide fun q hq => ?_, hrow10.sl (by rw [List.length_set]; exact hc5a) hc5b, hrg10.sl (by rw [List.length_set]; exact hc7a) hc7b hfg2 hrg10.lt⟩
    · have : q < w1.heap.size := hq
      show q < w10.heap.size; omega
    · have : q < w1.heap.size := hq
      show q < w10.heap.size; omega
  have hb010 := Hb1.out.trans (hb110.mono z1)
  have hz10 := hb110.size
  clear q0 q1 q2 hs10
  have Hw10 := Lib.hid hw10; clear hw10
  have Ho10 := Lib.hid ho10; clear ho10
  have Hrow10 := Lib.hid hrow10; clear hrow10
  have Hrg10 := Lib.hid hrg10; clear hrg10
  have Hm10 := Lib.hid hm10; clear hm10
  have Hb110 := Lib.hid hb110; clear hb110
  have Hfit10 := Lib.hid hfit10; clear hfit10
  have Hfg2 := Lib.hid hfg2; clear hfg2
  have Hmov := Lib.hid hmov; clear hmov
  have Hb010 := Lib.hid hb010; clear hb010
  clear Hrow8 Hrg8 Hm8 Hcb Hcc Hfc Hw9 Ho9 Hrow9 Hrg9 Hm9 Hb19
  -- region 8: the copy with a term less
  obtain ⟨x0, x1, x2, x3⟩ := Cells.out w10 Hb010.out
  go_upto_region 9 with fail
  obtain ⟨w11, hw11⟩ : ∃ W, W = w10.alloc (.cells #[.slice A1 f.lo.length c1, .slice A2 f.hi.length c2, .slice (some ⟨b3, o3, none⟩) f.terms.length c3, .slice (some ⟨b4, o4, none⟩) f.goals.length c4] 25) := ⟨_, rfl⟩
  rw [← hw11]
  have hbW : Below w10.heap.size w10 w11 := by rw [hw11]; exact al _
  have hmW : Blk w11 w10.heap.size 25 #[.slice A1 f.lo.length c1, .slice A2 f.hi.length c2, .slice (some ⟨b3, o3, none⟩) f.terms.length c3, .slice (some ⟨b4, o4, none⟩) f.goals.length c4] := by rw [hw11]; exact Blk.new _ _ _
  have Hw11 := Lib.hid hw11; clear hw11
  clear x0 x1 x2 x3
  have hcl0 := Hfit1.out.t.lenle
  obtain ⟨_, hcl⟩ := hcl0
  have hll : kn < f.terms.length := by have := P5.out; omega
  have hkc : kn ≤ c3 := by omega
  have hkc1 : kn + 1 ≤ c3 := by omega
  have hkl1 : kn + 1 ≤ f.terms.length := by omega
  have hzW := hbW.size
  have hb1W : Below w1.heap.size w1 w11 := Hb110.out.trans (hbW.mono hz10)
  have hb0W := Hb010.out.trans (hbW.mono Hb010.out.size)
  have hz1W := hb1W.size
  have hlb := hmW.lt
  obtain ⟨y0, y1, y2, y3⟩ := Cells.out w11 hb0W
  have ya : (w11.alloc (.cells #[] 57)).cell? ⟨w.heap.size, 2, none⟩ = some (.slice (some ⟨b3, o3, none⟩) f.terms.length c3) := (Cells.out _ (hb0W.alloc hb0W.size _)).2.2.1
  have hem : Own pFrm 57 w11.heap.size (Old w1) ((w11.alloc (.cells #[] 57)).drew) (.slice (some ⟨w11.heap.size, 0, none⟩) 0 0) [] := (Own.empty (Nat.le_refl _)).drew
  have hs1 : SlAt pFrm (Old w1) ((w11.alloc (.cells #[] 57)).drew) (some ⟨b3, o3, none⟩) c3 (f.terms.take kn) := sl_take (Hfit1.out.t.below (below_drew (hb1W.alloc hz1W _))) kn
  have hF : ∀ q, Old w1 q → Old w1 q ∧ q < ((w11.alloc (.cells #[] 57)).drew).heap.size ∧ some q ≠ (Value.slice (some ⟨w11.heap.size, 0, none⟩) 0 0).ownBlock := fun q hq => by
    have : q < w1.heap.size := hq
    exact ⟨hq, by show q < (World.alloc w11 _).heap.size; simp; omega, fun he => by simp [Value.ownBlock] at he; omega⟩
  have htk : (f.terms.take kn).length = kn := by rw [List.length_take]; omega
  have hln : ([] ++ f.terms.take kn).length = kn := htk
  have hrk : Room kn := room_of (by omega)
  have hbase : w11.heap.size ≤ ((w11.alloc (.cells #[] 57)).drew).heap.size := by show _ ≤ (World.alloc w11 _).heap.size; simp
  have hg1 : ∀ (v : Value) (w12 : World), Grew w11.heap.size ((w11.alloc (.cells #[] 57)).drew) w12 (.slice (some ⟨w11.heap.size, 0, none⟩) 0 0) v → Below w11.heap.size w11 w12 := fun v w12 hg => (below_drew (al _)).trans hg.bel
  have hq1 : ∀ (v : Value) (w12 : World), Grew w11.heap.size ((w11.alloc (.cells #[] 57)).drew) w12 (.slice (some ⟨w11.heap.size, 0, none⟩) 0 0) v → w12.cell? ⟨w.heap.size, 2, none⟩ = some (.slice (some ⟨b3, o3, none⟩) f.terms.length c3) := fun v w12 hg =>
    (Cells.out _ (hb0W.trans ((hg1 v w12 hg).mono hb0W.size))).2.2.1
  obtain ⟨Ad, hAd⟩ : ∃ Ad, (if c3 = kn + 1 then some ⟨b3, o3, none⟩ else some ⟨b3, o3 + (kn + 1) * 2, none⟩ : Option Addr) = some Ad := by split <;> exact ⟨_, rfl⟩
  have hs2 : ∀ (v : Value) (w12 : World), Grew w11.heap.size ((w11.alloc (.cells #[] 57)).drew) w12 (.slice (some ⟨w11.heap.size, 0, none⟩) 0 0) v → SlAt pFrm (Old w1) w12 (some Ad) (c3 - (kn + 1)) (f.terms.drop (kn + 1)) := fun v w12 hg => by
    have h1 := Hfit1.out.t.below (hb1W.trans ((hg1 v w12 hg).mono hz1W))
    by_cases hcap : c3 = kn + 1
    · rw [drop_end (by omega : ¬ kn + 1 < f.terms.length)]
      exact sl_nil_at (by have := h1.mx; omega) (fun e => by cases e)
    · rw [if_neg hcap] at hAd
      rw [← hAd]
      have := sl_drop h1 hkl1
      exact this
  have hF2 : ∀ (A : Option Addr) (c : Nat) (w12 : World), Own pFrm 57 w11.heap.size (Old w1) w12 (.slice A kn c) ([] ++ f.terms.take kn) → Below w11.heap.size w11 w12 → ∀ q, Old w1 q → Old w1 q ∧ q < w12.heap.size ∧ some q ≠ (Value.slice A kn c).ownBlock := fun A c w12 ho hb q hq => by
    have h1 : q < w1.heap.size := hq
    have h2 := hb.size
    exact ⟨hq, by omega, fun he => by have := (ho.lt q he.symm).1; omega⟩
  have hn2 : (([] ++ f.terms.take kn) ++ f.terms.drop (kn + 1)).length = f.terms.length - 1 := by simp; omega
  have hdl : (f.terms.drop (kn + 1)).length = f.terms.length - (kn + 1) := by simp
  have hr2 : Room (f.terms.length - 1) := room_of (by have := P5.out; omega)
  have hbx2 : ∀ (v v1 v2 : Value) (w12 w13 : World), Grew w11.heap.size ((w11.alloc (.cells #[] 57)).drew) w12 (.slice (some ⟨w11.heap.size, 0, none⟩) 0 0) v → Grew w11.heap.size w12 w13 v1 v2 → Below w11.heap.size w11 w13 ∧ Blk w13 w10.heap.size 25 #[.slice A1 f.lo.length c1, .slice A2 f.hi.length c2, .slice (some ⟨b3, o3, none⟩) f.terms.length c3, .slice (some ⟨b4, o4, none⟩) f.goals.length c4] := fun v v1 v2 w12 w13 h1 h2 =>
    have hb := (hg1 v w12 h1).trans h2.bel
    ⟨hb, hmW.same (hb.block _ hlb)⟩
  have hwr : IntKind.i64.wrap ((kn : Int) + 1) = (kn : Int) + 1 := IntWalk.i64_in _ (by omega)
  have hw0 : (0 : Int) ≤ (kn : Int) + 1 := by omega
  have hw1 : (kn : Int) + 1 ≤ (f.terms.length : Int) := by omega
  have hw2 : ((kn : Int) + 1).toNat = kn + 1 := by omega
  have Hs2 := Lib.hid hs2; clear hs2
  have HF2 := Lib.hid hF2; clear hF2
  have Hn2 := Lib.hid hn2; clear hn2
  have Hdl := Lib.hid hdl; clear hdl
  have Hr2 := Lib.hid hr2; clear hr2
  have Hbx2 := Lib.hid hbx2; clear hbx2
  have HbW := Lib.hid hbW; clear hbW
  have HmW := Lib.hid hmW; clear hmW
  have Hb1W := Lib.hid hb1W; clear hb1W
  have Hb0W := Lib.hid hb0W; clear hb0W
  have Hem := Lib.hid hem; clear hem
  have Hs1 := Lib.hid hs1; clear hs1
  have HF := Lib.hid hF; clear hF
  have Htk := Lib.hid htk; clear htk
  have Hln := Lib.hid hln; clear hln
  have Hrk := Lib.hid hrk; clear hrk
  have Hg1 := Lib.hid hg1; clear hg1
  have Hq1 := Lib.hid hq1; clear hq1
  go_wp2
  go_cut [] (fun wx => LessA f kn w10 A1 c1 A2 c2 (some ⟨b4, o4, none⟩) c4 wx)
  case first =>
    go_region_law
      (first
        | (refine step_catG (E := pFrm) (xs := []) (v := .slice (some ⟨w11.heap.size, 0, none⟩) 0 0) (base := w11.heap.size) (G := Old w1) 23 57 (.agg #[.int .i64 0, .slice none 0 0]) 32 (.tmp 71) (.tmp 75) rfl rfl Try.underlying23 info_frmZ rfl (by decide) rfl Hem.out (some ⟨b3, o3, none⟩) c3 (f.terms.take kn) (Eq.trans rfl (congrArg (fun n => Value.slice (some ⟨b3, o3, none⟩) n c3) Htk.out.symm)) (Old w1) Hs1.out HF.out kn Hln.out Hrk.out (by decide) hbase ?_; intro A12 c12 w12 hown12 hgr12; have q12 := Hq1.out _ _ hgr12.out)
        | (refine step_catG (E := pFrm) (xs := [] ++ f.terms.take kn) (v := .slice A12 kn c12) (base := w11.heap.size) (G := Old w1) 23 57 (.agg #[.int .i64 0, .slice none 0 0]) 32 (.tmp 76) (.tmp 81) rfl rfl Try.underlying23 info_frmZ rfl (by decide) rfl hown12.out (some Ad) (c3 - (kn + 1)) (f.terms.drop (kn + 1)) (Eq.trans rfl (congrArg (fun n => Value.slice (some Ad) n (c3 - (kn + 1))) Hdl.out.symm)) (Old w1) (Hs2.out _ _ hgr12.out) (HF2.out _ _ _ hown12.out (Hg1.out _ _ hgr12.out)) (f.terms.length - 1) Hn2.out Hr2.out (by decide) (Hg1.out _ _ hgr12.out).size ?_; intro A13 c13 w13 hown13 hgr13; have q0 := (Hbx2.out _ _ _ _ _ hgr12.out hgr13.out).2.four; have q13 := (Hbx2.out _ _ _ _ _ hgr12.out hgr13.out).2.free 2; obtain ⟨_, _, r13, _⟩ := q0))
    all_goals
      have hz := Hbx2.out _ _ _ _ _ hgr12.out hgr13.out
      have ho := hown13.out
      go_wp2_with fail
      go_meet
      exact less_a (Blk.lt HmW.out) HbW.out hz ho hz10
  case rest =>
  obtain ⟨hbW, A9, c9, hmW, hsW⟩ := hcut
  obtain ⟨wa, rfl⟩ : ∃ wa : World, wa = wc := ⟨_, rfl⟩
  clear y0 y1 y2 y3 ya hbase hAd hwr hw0 hw1 hw2 hkc hkc1 hkl1 hcl hll Hs2 HF2 Hn2 Hdl Hr2 Hbx2 HbW HmW Hb1W Hb0W Hem Hs1 HF Htk Hln Hrk Hg1 Hq1
  have HsW := Lib.hid hsW; clear hsW
  have hcl0 := Hfit1.out.g.lenle
  obtain ⟨_, hcl⟩ := hcl0
  have hll : kn < f.goals.length := by have := P5.out; omega
  have hkc : kn ≤ c4 := by omega
  have hkc1 : kn + 1 ≤ c4 := by omega
  have hkl1 : kn + 1 ≤ f.goals.length := by omega
  have hzW := hbW.size
  have hb1W : Below w1.heap.size w1 wa := Hb110.out.trans (hbW.mono hz10)
  have hb0W := Hb010.out.trans (hbW.mono Hb010.out.size)
  have hz1W := hb1W.size
  have hlb := hmW.lt
  obtain ⟨y0, y1, y2, y3⟩ := Cells.out wa hb0W
  have ya : (wa.alloc (.cells #[] 3)).cell? ⟨w.heap.size, 3, none⟩ = some (.slice (some ⟨b4, o4, none⟩) f.goals.length c4) := (Cells.out _ (hb0W.alloc hb0W.size _)).2.2.2
  have hem : Own (pI .i64) 3 wa.heap.size (Old w1) ((wa.alloc (.cells #[] 3)).drew) (.slice (some ⟨wa.heap.size, 0, none⟩) 0 0) [] := (Own.empty (Nat.le_refl _)).drew
  have hs1 : SlAt (pI .i64) (Old w1) ((wa.alloc (.cells #[] 3)).drew) (some ⟨b4, o4, none⟩) c4 (f.goals.take kn) := sl_take (Hfit1.out.g.below (below_drew (hb1W.alloc hz1W _))) kn
  have hF : ∀ q, Old w1 q → Old w1 q ∧ q < ((wa.alloc (.cells #[] 3)).drew).heap.size ∧ some q ≠ (Value.slice (some ⟨wa.heap.size, 0, none⟩) 0 0).ownBlock := fun q hq => by
    have : q < w1.heap.size := hq
    exact ⟨hq, by show q < (World.alloc wa _).heap.size; simp; omega, fun he => by simp [Value.ownBlock] at he; omega⟩
  have htk : (f.goals.take kn).length = kn := by rw [List.length_take]; omega
  have hln : ([] ++ f.goals.take kn).length = kn := htk
  have hrk : Room kn := room_of (by omega)
  have hbase : wa.heap.size ≤ ((wa.alloc (.cells #[] 3)).drew).heap.size := by show _ ≤ (World.alloc wa _).heap.size; simp
  have hg1 : ∀ (v : Value) (w12 : World), Grew wa.heap.size ((wa.alloc (.cells #[] 3)).drew) w12 (.slice (some ⟨wa.heap.size, 0, none⟩) 0 0) v → Below wa.heap.size wa w12 := fun v w12 hg => (below_drew (al _)).trans hg.bel
  have hq1 : ∀ (v : Value) (w12 : World), Grew wa.heap.size ((wa.alloc (.cells #[] 3)).drew) w12 (.slice (some ⟨wa.heap.size, 0, none⟩) 0 0) v → w12.cell? ⟨w.heap.size, 3, none⟩ = some (.slice (some ⟨b4, o4, none⟩) f.goals.length c4) := fun v w12 hg =>
    (Cells.out _ (hb0W.trans ((hg1 v w12 hg).mono hb0W.size))).2.2.2
  obtain ⟨Ad, hAd⟩ : ∃ Ad, (if c4 = kn + 1 then some ⟨b4, o4, none⟩ else some ⟨b4, o4 + (kn + 1), none⟩ : Option Addr) = some Ad := by split <;> exact ⟨_, rfl⟩
  have hs2 : ∀ (v : Value) (w12 : World), Grew wa.heap.size ((wa.alloc (.cells #[] 3)).drew) w12 (.slice (some ⟨wa.heap.size, 0, none⟩) 0 0) v → SlAt (pI .i64) (Old w1) w12 (some Ad) (c4 - (kn + 1)) (f.goals.drop (kn + 1)) := fun v w12 hg => by
    have h1 := Hfit1.out.g.below (hb1W.trans ((hg1 v w12 hg).mono hz1W))
    by_cases hcap : c4 = kn + 1
    · rw [drop_end (by omega : ¬ kn + 1 < f.goals.length)]
      exact sl_nil_at (by have := h1.mx; omega) (fun e => by cases e)
    · rw [if_neg hcap] at hAd
      rw [← hAd]
      have := sl_drop h1 hkl1
      rwa [show (kn + 1) * (pI .i64).n = kn + 1 from Nat.mul_one _] at this
  have hF2 : ∀ (A : Option Addr) (c : Nat) (w12 : World), Own (pI .i64) 3 wa.heap.size (Old w1) w12 (.slice A kn c) ([] ++ f.goals.take kn) → Below wa.heap.size wa w12 → ∀ q, Old w1 q → Old w1 q ∧ q < w12.heap.size ∧ some q ≠ (Value.slice A kn c).ownBlock := fun A c w12 ho hb q hq => by
    have h1 : q < w1.heap.size := hq
    have h2 := hb.size
    exact ⟨hq, by omega, fun he => by have := (ho.lt q he.symm).1; omega⟩
  have hn2 : (([] ++ f.goals.take kn) ++ f.goals.drop (kn + 1)).length = f.goals.length - 1 := by simp; omega
  have hdl : (f.goals.drop (kn + 1)).length = f.goals.length - (kn + 1) := by simp
  have hr2 : Room (f.goals.length - 1) := room_of (by have := P5.out; omega)
  have hbx2 : ∀ (v v1 v2 : Value) (w12 w13 : World), Grew wa.heap.size ((wa.alloc (.cells #[] 3)).drew) w12 (.slice (some ⟨wa.heap.size, 0, none⟩) 0 0) v → Grew wa.heap.size w12 w13 v1 v2 → Below wa.heap.size wa w13 ∧ Blk w13 w10.heap.size 25 #[.slice A1 f.lo.length c1, .slice A2 f.hi.length c2, .slice A9 (f.terms.length - 1) c9, .slice (some ⟨b4, o4, none⟩) f.goals.length c4] := fun v v1 v2 w12 w13 h1 h2 =>
    have hb := (hg1 v w12 h1).trans h2.bel
    ⟨hb, hmW.same (hb.block _ hlb)⟩
  have hwr : IntKind.i64.wrap ((kn : Int) + 1) = (kn : Int) + 1 := IntWalk.i64_in _ (by omega)
  have hw0 : (0 : Int) ≤ (kn : Int) + 1 := by omega
  have hw1 : (kn : Int) + 1 ≤ (f.goals.length : Int) := by omega
  have hw2 : ((kn : Int) + 1).toNat = kn + 1 := by omega
  have Hs2 := Lib.hid hs2; clear hs2
  have HF2 := Lib.hid hF2; clear hF2
  have Hn2 := Lib.hid hn2; clear hn2
  have Hdl := Lib.hid hdl; clear hdl
  have Hr2 := Lib.hid hr2; clear hr2
  have Hbx2 := Lib.hid hbx2; clear hbx2
  have HbW := Lib.hid hbW; clear hbW
  have HmW := Lib.hid hmW; clear hmW
  have Hb1W := Lib.hid hb1W; clear hb1W
  have Hb0W := Lib.hid hb0W; clear hb0W
  have Hem := Lib.hid hem; clear hem
  have Hs1 := Lib.hid hs1; clear hs1
  have HF := Lib.hid hF; clear hF
  have Htk := Lib.hid htk; clear htk
  have Hln := Lib.hid hln; clear hln
  have Hrk := Lib.hid hrk; clear hrk
  have Hg1 := Lib.hid hg1; clear hg1
  have Hq1 := Lib.hid hq1; clear hq1
  go_wp2
  go_cut [] (fun wx => LessB f kn w10 A1 c1 A2 c2 wx)
  case first =>
    go_region_law
      (first
        | (refine step_catG (E := (pI .i64)) (xs := []) (v := .slice (some ⟨wa.heap.size, 0, none⟩) 0 0) (base := wa.heap.size) (G := Old w1) 22 3 (.int .i64 0) 8 (.tmp 84) (.tmp 88) rfl rfl Try.underlying22 info_intY rfl (by decide) rfl Hem.out (some ⟨b4, o4, none⟩) c4 (f.goals.take kn) (Eq.trans rfl (congrArg (fun n => Value.slice (some ⟨b4, o4, none⟩) n c4) Htk.out.symm)) (Old w1) Hs1.out HF.out kn Hln.out Hrk.out (by decide) hbase ?_; intro A12 c12 w12 hown12 hgr12; have q12 := Hq1.out _ _ hgr12.out)
        | (refine step_catG (E := (pI .i64)) (xs := [] ++ f.goals.take kn) (v := .slice A12 kn c12) (base := wa.heap.size) (G := Old w1) 22 3 (.int .i64 0) 8 (.tmp 89) (.tmp 94) rfl rfl Try.underlying22 info_intY rfl (by decide) rfl hown12.out (some Ad) (c4 - (kn + 1)) (f.goals.drop (kn + 1)) (Eq.trans rfl (congrArg (fun n => Value.slice (some Ad) n (c4 - (kn + 1))) Hdl.out.symm)) (Old w1) (Hs2.out _ _ hgr12.out) (HF2.out _ _ _ hown12.out (Hg1.out _ _ hgr12.out)) (f.goals.length - 1) Hn2.out Hr2.out (by decide) (Hg1.out _ _ hgr12.out).size ?_; intro A13 c13 w13 hown13 hgr13; have q0 := (Hbx2.out _ _ _ _ _ hgr12.out hgr13.out).2.four; have q13 := (Hbx2.out _ _ _ _ _ hgr12.out hgr13.out).2.free 3; obtain ⟨_, _, _, r13⟩ := q0))
    all_goals
      have hz := Hbx2.out _ _ _ _ _ hgr12.out hgr13.out
      have ho := hown13.out
      go_wp2_with fail
      go_meet
      exact less_b (Blk.lt HmW.out) HbW.out hz ho hz10 HsW.out
  case rest =>
  obtain ⟨hbx, A9, c9, A10, c10, hmx, hsx, hgx⟩ := hcut
  obtain ⟨wb, rfl⟩ : ∃ wb : World, wb = wc := ⟨_, rfl⟩
  have hzx := hbx.size
  have hb0b := Hb010.out.trans (hbx.mono Hb010.out.size)
  have hfb := H0.out.later hb0b
  have hL : FitAt (lessF f kn) (Old wb) wb A1 c1 A2 c2 A9 c9 A10 c10 := ⟨hfb.l, hfb.h, hsx.wide fun k hk => hk.1, hgx.wide fun k hk => hk.1⟩
  have hM : FitAt (movF f kn t g bb) (Old wb) wb A1 c1 A2 c2 (some ⟨g1, 0, none⟩) c5 (some ⟨g2, 0, none⟩) c7 := Hmov.out.later hbx
  have hmM : Blk wb w1.heap.size 25 #[.slice A1 f.lo.length c1, .slice A2 f.hi.length c2, .slice (some ⟨g1, 0, none⟩) f.terms.length c5, .slice (some ⟨g2, 0, none⟩) f.goals.length c7] := Hm10.out.same (hbx.block _ Hm10.out.lt)
  have hl1 : (lessF f kn).terms.length = f.terms.length - 1 := by show (f.terms.take kn ++ f.terms.drop (kn + 1)).length = _; simp; omega
  have hl2 : (lessF f kn).goals.length = f.goals.length - 1 := by show (f.goals.take kn ++ f.goals.drop (kn + 1)).length = _; simp; omega
  have hl3 : (movF f kn t g bb).terms.length = f.terms.length := List.length_set
  have hl4 : (movF f kn t g bb).goals.length = f.goals.length := List.length_set
  have hcl := less_check Hck.out hkl
  have hbl := less_best Hck.out hkl
  have hbr : bestR f = bestF f := by unfold bestR; rw [if_pos Hck.out]
  have hbrl : bestR (lessF f kn) = bestF (lessF f kn) := by unfold bestR; rw [if_pos hcl]
  have hbm := mov_best (b := bb) Ht.out Hg.out
  obtain ⟨least, hle⟩ : ∃ v, (bestF f).2 = v := ⟨_, rfl⟩
  obtain ⟨less, hls⟩ : ∃ v, (bestF (lessF f kn)).2 = v := ⟨_, rfl⟩
  obtain ⟨bs, hbs⟩ : ∃ v, (bestF f).1 = v := ⟨_, rfl⟩
  rw [hle, hls] at hbl
  have Hb0b := Lib.hid hb0b; clear hb0b
  have Hfb := Lib.hid hfb; clear hfb
  have HL := Lib.hid hL; clear hL
  have HM := Lib.hid hM; clear hM
  have HmM := Lib.hid hmM; clear hmM
  have Hl1 := Lib.hid hl1; clear hl1
  have Hl2 := Lib.hid hl2; clear hl2
  have Hl3 := Lib.hid hl3; clear hl3
  have Hl4 := Lib.hid hl4; clear hl4
  have Hcl := Lib.hid hcl; clear hcl
  have Hbr := Lib.hid hbr; clear hbr
  have Hbrl := Lib.hid hbrl; clear hbrl
  have Hbm := Lib.hid hbm; clear hbm
  have Hle := Lib.hid hle; clear hle
  have Hls := Lib.hid hls; clear hls
  have Hbs := Lib.hid hbs; clear hbs
  have Hbx := Lib.hid hbx; clear hbx
  have Hmx := Lib.hid hmx; clear hmx
  have Hsx := Lib.hid hsx; clear hsx
  have Hgx := Lib.hid hgx; clear hgx
  clear y0 y1 y2 y3 ya hbase hAd hwr hw0 hw1 hw2 hkc hkc1 hkl1 hcl hll Hs2 HF2 Hn2 Hdl Hr2 Hbx2 HbW HmW Hb1W Hb0W Hem Hs1 HF Htk Hln Hrk Hg1 Hq1
  -- region 11
  obtain ⟨x0, x1, x2, x3⟩ := Cells.out wb Hb0b.out
  go_wp2_with fail
  refine (best_calls f A1 c1 A2 c2 (some ⟨b3, o3, none⟩) c3 (some ⟨b4, o4, none⟩) c4 wb Hfb.out).mono ?_
  intro e wd hbp
  obtain ⟨hbd, Ax, cx, rfl, hs3⟩ := best_uniform hbp
  rw [Hbr.out, Hbs.out] at hs3
  rw [Hbr.out, Hbs.out, Hle.out, Hck.out]
  have Hb0d := Lib.hid (Hb0b.out.trans (hbd.mono Hb0b.out.size))
  have hbest := sl_new hs3
  have hmd := Hmx.out.same (hbd.block _ Hmx.out.lt)
  have hmMd := HmM.out.same (hbd.block _ HmM.out.lt)
  have hLd := HL.out.later hbd
  have hMd := HM.out.later hbd
  clear hbp x0 x1 x2 x3 hs3
  obtain ⟨x0, x1, x2, x3⟩ := hmd.four
  have hcb : Calls Try.prog 15 #[.agg #[.slice A1 f.lo.length c1, .slice A2 f.hi.length c2, .slice A9 (f.terms.length - 1) c9, .slice A10 (f.goals.length - 1) c10]] wd (BestPost (lessF f kn) wd) := by
    rw [← Hl1.out, ← Hl2.out]
    exact best_calls (lessF f kn) A1 c1 A2 c2 A9 c9 A10 c10 wd hLd
  have Hbest := Lib.hid hbest; clear hbest
  have Hmd := Lib.hid hmd; clear hmd
  have HmMd := Lib.hid hmMd; clear hmMd
  have HLd := Lib.hid hLd; clear hLd
  have HMd := Lib.hid hMd; clear hMd
  have Hcb := Lib.hid hcb; clear hcb
  have Hbd := Lib.hid hbd; clear hbd
  -- region 12
  go_wp2_with fail
  refine Hcb.out.mono ?_
  intro e we hbp
  obtain ⟨hbe, Ay, cy, rfl, hs4⟩ := best_uniform hbp
  rw [Hbrl.out] at hs4
  rw [Hbrl.out, Hls.out, Hcl.out]
  have Hb0e := Lib.hid (Hb0d.out.trans (hbe.mono Hb0d.out.size))
  have hbest := Hbest.out.later hbe
  have hmMe := HmMd.out.same (hbe.block _ HmMd.out.lt)
  have hMe := HMd.out.later hbe
  clear hbp x0 x1 x2 x3 hs4 Hbest Hcb
  obtain ⟨x0, x1, x2, x3⟩ := hmMe.four
  have hcv : Calls Try.prog 34 #[.agg #[.slice A1 f.lo.length c1, .slice A2 f.hi.length c2, .slice (some ⟨g1, 0, none⟩) f.terms.length c5, .slice (some ⟨g2, 0, none⟩) f.goals.length c7]] we (BoolPost (validF (movF f kn t g bb)) we) := by
    rw [← Hl3.out, ← Hl4.out]
    exact refValid_calls (movF f kn t g bb) A1 c1 A2 c2 (some ⟨g1, 0, none⟩) c5 (some ⟨g2, 0, none⟩) c7 we hMe
  have Hbest := Lib.hid hbest; clear hbest
  have HmMe := Lib.hid hmMe; clear hmMe
  have HMe := Lib.hid hMe; clear hMe
  have Hcv := Lib.hid hcv; clear hcv
  have Hbe := Lib.hid hbe; clear hbe
  go_wp2_with fail
  refine Hcv.out.mono ?_
  rintro e wf ⟨rfl, hbf'⟩
  have Hb0f := Lib.hid (Hb0e.out.trans (hbf'.mono Hb0e.out.size))
  have hbest := Hbest.out.later hbf'
  have hmMf := HmMe.out.same (hbf'.block _ HmMe.out.lt)
  have hMf := HMe.out.later hbf'
  clear x0 x1 x2 x3 Hbest Hcv
  obtain ⟨x0, x1, x2, x3⟩ := hmMf.four
  cases hvm : validF (movF f kn t g bb)
  · have Hvm := Lib.hid hvm; clear hvm
    have Hbest := Lib.hid hbest; clear hbest
    have HmMf := Lib.hid hmMf; clear hmMf
    have HMf := Lib.hid hMf; clear hMf
    have Hbf' := Lib.hid hbf'; clear hbf'
    go_wp2_with fail
    refine (alive_calls wf).mono ?_
    rintro e wz hbz
    have hf := Fin.out wf e wz Hb0f.out hbz
    obtain ⟨rfl, _⟩ := hbz
    have Hf := Lib.hid hf; clear hf
    go_wp2
    go_ret
    exact Hf.out
  have hckm := mov_check Hck.out hvm
  have hbrm : bestR (movF f kn t g bb) = bestF f := by unfold bestR; rw [if_pos hckm, Hbm.out]
  have hcb : Calls Try.prog 15 #[.agg #[.slice A1 f.lo.length c1, .slice A2 f.hi.length c2, .slice (some ⟨g1, 0, none⟩) f.terms.length c5, .slice (some ⟨g2, 0, none⟩) f.goals.length c7]] wf (BestPost (movF f kn t g bb) wf) := by
    rw [← Hl3.out, ← Hl4.out]
    exact best_calls (movF f kn t g bb) A1 c1 A2 c2 (some ⟨g1, 0, none⟩) c5 (some ⟨g2, 0, none⟩) c7 wf hMf
  have Hvm := Lib.hid hvm; clear hvm
  have Hbest := Lib.hid hbest; clear hbest
  have HmMf := Lib.hid hmMf; clear hmMf
  have HMf := Lib.hid hMf; clear hMf
  have Hbf' := Lib.hid hbf'; clear hbf'
  have Hckm := Lib.hid hckm; clear hckm
  have Hbrm := Lib.hid hbrm; clear hbrm
  have Hcb := Lib.hid hcb; clear hcb
  go_wp2_with fail
  refine Hcb.out.mono ?_
  intro e wg hbp
  obtain ⟨hbg, Az, cz, rfl, hs5⟩ := best_uniform hbp
  rw [Hbrm.out, Hbs.out] at hs5
  rw [Hbrm.out, Hbs.out, Hle.out, Hckm.out]
  have Hb0g := Lib.hid (Hb0f.out.trans (hbg.mono Hb0f.out.size))
  have hbest := Hbest.out.later hbg
  have hbest2 := sl_new hs5
  clear hbp x0 x1 x2 x3 hs5 Hbest Hcb
  have Hbest := Lib.hid hbest; clear hbest
  have Hbest2 := Lib.hid hbest2; clear hbest2
  have Hbg := Lib.hid hbg; clear hbg
  go_wp2_with fail
  refine (sameInts_calls Ax Az cx cz bs bs wg Hbest.out Hbest2.out).mono ?_
  rintro e wh ⟨rfl, q, hq⟩
  have Hb0h := Lib.hid (show Below W0.heap.size W0 wh by rw [hq]; exact below_drewN Hb0g.out _)
  have hsm : (bs == bs) = true := by simp
  rw [hsm]
  clear hq
  go_wp2_with fail
  refine (alive_calls wh).mono ?_
  rintro e wz hbz
  have hf := Fin.out wh e wz Hb0h.out hbz
  obtain ⟨rfl, _⟩ := hbz
  have Hf := Lib.hid hf; clear hf
  go_wp2
  go_ret
  exact Hf.out
end Go.Proofs.Ytcdplnikpbbomaa
