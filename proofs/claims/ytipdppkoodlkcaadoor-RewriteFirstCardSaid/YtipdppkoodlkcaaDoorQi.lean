/-
  RewriteFirst, the walk of the law.
-/
import Derived.Test.YtipdppkoodlkcaaDoorQh
import Derived.Test.YtipdppkoodlkcaaDoorQj
import Derived.Test.YtipdppkoodlkcaaDoorRq
import Derived.Test.YtipdppkoodlkcaaDoorFh
import Derived.Deep.RegionLaw
import Derived.Deep.DeepCutAuto
import Derived.Deep.QuietTactic
import Derived.BigQuiet
import Derived.Lib.QuietBelow
namespace Go.Proofs.YtipdppkoodlkcaaDoor
open Go.RowKit Go.Sort Go.BigFrame
set_option linter.unusedVariables false
theorem first_fits {m : Mod} {rs : List Rul} {j : Nat} (h : firstF rs m = (j : Int)) : ∃ q, rs[j]? = some q ∧ fitsF q m = true := by
  have key : ∀ (l : List Rul) (k j : Nat), firstFrom m l k = (j : Int) → ∃ q, l[j - k]? = some q ∧ fitsF q m = true ∧ k ≤ j := by
    intro l
    induction l with
    | nil => intro k j h; have e : firstFrom m [] k = -1 := rfl; rw [e] at h; omega
    | cons q l ih =>
      intro k j h
      unfold firstFrom at h
      by_cases hf : fitsF q m = true
      · rw [if_pos hf] at h
        have : j = k := by omega
        subst this
        exact ⟨q, by rw [Nat.sub_self]; rfl, hf, Nat.le_refl _⟩
      · rw [if_neg hf] at h
        obtain ⟨q', h1, h2, h3⟩ := ih (k + 1) j h
        refine ⟨q', ?_, h2, by omega⟩
        rw [show j - k = (j - (k + 1)) + 1 from by omega, List.getElem?_cons_succ]; exact h1
  obtain ⟨q, h1, h2, _⟩ := key rs 0 j h
  exact ⟨q, by simpa using h1, h2⟩
abbrev boxR (r : Rul) (A3 : Option Addr) (c3 : Nat) (B3 : Option Addr) (d3 : Nat) : Array Value := #[.int .u8 r.name, .int .i64 r.arity, .int .u8 r.left, .int .u8 r.right, .slice A3 r.guards.length c3, .int .i64 r.weight, .slice B3 r.out.length d3]
def MoreR (rs : List Rul) (r : Rul) (A3 : Option Addr) (c3 : Nat) (B3 : Option Addr) (d3 : Nat) (w : World) (s : Value) (wx : World) : Prop :=
  ∃ A c, s = .slice A (rs.length + 1) c ∧ Hid (SlAt pRul (Old wx) wx A c (rs ++ [r])) ∧ Hid (Below w.heap.size w wx) ∧ Hid (Blk wx w.heap.size 27 (boxR r A3 c3 B3 d3)) ∧ w.heap.size + 1 ≤ wx.heap.size
theorem drew_below {B : Nat} {a w : World} (h : Below B a w) : Below B a w.drew := ⟨h.os, h.tape, h.output, h.size, h.block⟩
theorem own_drew {α : Type} {E : Rp α} {e : TypeId} {base : Nat} {G : Nat → Prop} {w : World} {v : Value} {xs : List α} (h : Own E e base G w v xs) : Own E e base G w.drew v xs := h.drew
set_option maxRecDepth 100000 in
set_option maxHeartbeats 16000000 in
theorem rewriteFirst_walk (A : Option Addr) (c : Nat) (rs : List Rul) (B : Option Addr) (cb : Nat) (ms : List Mod) (r : Rul) (A3 : Option Addr) (c3 : Nat) (B3 : Option Addr) (d3 : Nat) (w : World) (h : SlAt pRul (Old w) w A c rs) (h1 : SlAt pMod (Old w) w B cb ms)
    (hf : Fits .u8 r.name ∧ Fits .i64 r.arity ∧ Fits .u8 r.left ∧ Fits .u8 r.right ∧ Fits .i64 r.weight) (hg : SlAt pFrm (Old w) w A3 c3 r.guards) (ho : SlAt pShp (Old w) w B3 d3 r.out) (hrl : rs.length * 80 ≤ 140737488351232) (hL : LibAt w) :
    Calls Tryd.prog 3 #[.slice A rs.length c, .slice B ms.length cb, .agg #[.int .u8 r.name, .int .i64 r.arity, .int .u8 r.left, .int .u8 r.right, .slice A3 r.guards.length c3, .int .i64 r.weight, .slice B3 r.out.length d3]] w (OkPost w) := by
  have hmx := h.lenle
  have hmy := h1.lenle
  have hmg := hg.lenle
  have hmo := ho.lenle
  obtain ⟨W0, hW0⟩ : ∃ W0, W0 = w.alloc (.cells #[.int .u8 r.name, .int .i64 r.arity, .int .u8 r.left, .int .u8 r.right, .slice A3 r.guards.length c3, .int .i64 r.weight, .slice B3 r.out.length d3] 27) := ⟨_, rfl⟩
  have hb0 : Below w.heap.size w W0 := by rw [hW0]; exact bl _
  have hz0 : W0.heap.size = w.heap.size + 1 := by rw [hW0]; simp
  have hbl0 : Blk W0 w.heap.size 27 (boxR r A3 c3 B3 d3) := by rw [hW0]; exact Blk.new _ _ _
  -- the worlds of the region
  have src : ∀ (W : World) (hh : Nat), Below w.heap.size w W → Blk W hh 27 (boxR r A3 c3 B3 d3) → SlAt pRul (fun k => Old w k ∨ k = hh) W (some ⟨hh, 0, none⟩) 1 [r] := fun W hh hb hbk =>
    sl_lit (E := pRul) (xs := [r]) hbk ⟨_, [], rfl, rulV_R hf ((hg.below hb).wide fun k hk => .inl hk) ((ho.below hb).wide fun k hk => .inl hk), rfl⟩ (.inr rfl) (by unfold maxLen; simp) rfl
  have bx : Below W0.heap.size W0 (W0.alloc (.cells #[] 27)) := bl _
  have bxb : Below W0.heap.size W0 ((W0.alloc (.cells #[] 27)).alloc (.cells (boxR r A3 c3 B3 d3) 27)) := (bl _).alloc (by simp) _
  have bbx : Below W0.heap.size W0 ((W0.alloc (.cells (boxR r A3 c3 B3 d3) 27)).alloc (.cells #[] 27)) := (bl _).alloc (by simp) _
  have e1 : Own pRul 27 W0.heap.size (fun _ => True) ((W0.alloc (.cells #[] 27)).drew) (.slice (some ⟨W0.heap.size, 0, none⟩) 0 0) [] := own_drew (Own.empty (Nat.le_refl _))
  have e2 : Own pRul 27 W0.heap.size (fun _ => True) (((W0.alloc (.cells #[] 27)).alloc (.cells (boxR r A3 c3 B3 d3) 27)).drew) (.slice (some ⟨W0.heap.size, 0, none⟩) 0 0) [] := own_drew ((Own.empty (Nat.le_refl _)).alloc _)
  have e3 : Own pRul 27 W0.heap.size (fun _ => True) (((W0.alloc (.cells (boxR r A3 c3 B3 d3) 27)).alloc (.cells #[] 27)).drew) (.slice (some ⟨W0.heap.size + 1, 0, none⟩) 0 0) [] := own_drew (by
    have := Own.empty (E := pRul) (e := 27) (G := fun _ => True) (w := W0.alloc (.cells (boxR r A3 c3 B3 d3) 27)) (base := W0.heap.size) (by simp)
    rwa [show (W0.alloc (.cells (boxR r A3 c3 B3 d3) 27)).heap.size = W0.heap.size + 1 from by simp] at this)
  have s1 := fun (W : World) (hb : Below W0.heap.size W0 W) => h.below (hb0.trans (hb.mono (by omega)))
  have f1 : ∀ (W : World) (g : Nat), Below W0.heap.size W0 W → W0.heap.size ≤ g → ∀ k, Old w k → True ∧ k < W.heap.size ∧ some k ≠ (Value.slice (some ⟨g, 0, none⟩) 0 0).ownBlock := fun W g hb hg k hk => by
    have h1 : k < w.heap.size := hk
    have h2 := hb.size
    exact ⟨trivial, by omega, fun e => by have h3 : k = g := Option.some.inj e; omega⟩
  have n1 : (([] : List Rul) ++ rs).length = rs.length := rfl
  have n2 : ((([] : List Rul) ++ rs) ++ [r]).length = rs.length + 1 := by simp
  have m1 : rs.length ≤ maxLen := by unfold maxLen; omega
  have m2 : rs.length + 1 ≤ maxLen := by unfold maxLen; omega
  have y1 : rs.length * 80 ≤ 140737488355328 := by omega
  have y2 : (rs.length + 1) * 80 ≤ 140737488355328 := by omega
  have q1 : W0.heap.size ≤ ((W0.alloc (.cells #[] 27)).drew).heap.size := (drew_below bx).size
  have q2 := (drew_below bxb).size
  have q3 := (drew_below bbx).size
  have k2 : Blk (((W0.alloc (.cells #[] 27)).alloc (.cells (boxR r A3 c3 B3 d3) 27)).drew) (W0.heap.size + 1) 27 (boxR r A3 c3 B3 d3) := by
    have := Blk.new (W0.alloc (.cells #[] 27)) 27 (boxR r A3 c3 B3 d3)
    rwa [show (W0.alloc (.cells #[] 27)).heap.size = W0.heap.size + 1 from by simp] at this
  have k3 : Blk (((W0.alloc (.cells (boxR r A3 c3 B3 d3) 27)).alloc (.cells #[] 27)).drew) W0.heap.size 27 (boxR r A3 c3 B3 d3) := (Blk.new W0 27 (boxR r A3 c3 B3 d3)).alloc _
  -- the second append's source, in the three orders
  have d1 : ∀ (w12 : World) (A12 : Option Addr) (c12 : Nat), Grew W0.heap.size ((W0.alloc (.cells #[] 27)).drew) w12 (.slice (some ⟨W0.heap.size, 0, none⟩) 0 0) (.slice A12 rs.length c12) → Own pRul 27 W0.heap.size (fun _ => True) w12 (.slice A12 rs.length c12) ([] ++ rs) →
      Below W0.heap.size W0 (w12.alloc (.cells (boxR r A3 c3 B3 d3) 27)) ∧ SlAt pRul (fun k => Old w k ∨ k = w12.heap.size) (w12.alloc (.cells (boxR r A3 c3 B3 d3) 27)) (some ⟨w12.heap.size, 0, none⟩) 1 [r] ∧
      (∀ k, (Old w k ∨ k = w12.heap.size) → True ∧ k < (w12.alloc (.cells (boxR r A3 c3 B3 d3) 27)).heap.size ∧ some k ≠ (Value.slice A12 rs.length c12).ownBlock) := fun w12 A12 c12 hgr hown => by
    have hb := (drew_below bx).trans hgr.bel
    have hba : Below W0.heap.size W0 (w12.alloc (.cells (boxR r A3 c3 B3 d3) 27)) := hb.alloc hb.size _
    refine ⟨hba, src _ _ (hb0.trans (hba.mono (by omega))) (Blk.new _ _ _), fun k hk => ⟨trivial, ?_, fun e => ?_⟩⟩
    · have := hb.size
      rcases hk with hk | hk
      · have : k < w.heap.size := hk
        simp; omega
      · simp; omega
    · have h3 := hown.lt k e.symm
      rcases hk with hk | hk
      · have : k < w.heap.size := hk
        omega
      · omega
  have d2 : ∀ (w12 : World) (A12 : Option Addr) (c12 : Nat), Grew W0.heap.size (((W0.alloc (.cells #[] 27)).alloc (.cells (boxR r A3 c3 B3 d3) 27)).drew) w12 (.slice (some ⟨W0.heap.size, 0, none⟩) 0 0) (.slice A12 rs.length c12) → Own pRul 27 W0.heap.size (fun _ => True) w12 (.slice A12 rs.length c12) ([] ++ rs) →
      Below W0.heap.size W0 w12 ∧ SlAt pRul (fun k => Old w k ∨ k = W0.heap.size + 1) w12 (some ⟨W0.heap.size + 1, 0, none⟩) 1 [r] ∧ (∀ k, (Old w k ∨ k = W0.heap.size + 1) → True ∧ k < w12.heap.size ∧ some k ≠ (Value.slice A12 rs.length c12).ownBlock) := fun w12 A12 c12 hgr hown => by
    have hb := (drew_below bxb).trans hgr.bel
    have hkb := k2.same (hgr.oth (W0.heap.size + 1) k2.lt (fun e => by have : W0.heap.size + 1 = W0.heap.size := Option.some.inj e; omega))
    refine ⟨hb, src _ _ (hb0.trans (hb.mono (by omega))) hkb, fun k hk => ⟨trivial, ?_, fun e => ?_⟩⟩
    · have := hb.size
      have := hkb.lt
      rcases hk with hk | hk
      · have : k < w.heap.size := hk
        omega
      · omega
    · have h3 := hown.lt k e.symm
      rcases hk with hk | hk
      · have : k < w.heap.size := hk
        omega
      · rcases hgr.blk with h4 | ⟨q, h4, h5⟩
        · rw [h4] at e
          have : k = W0.heap.size := Option.some.inj e
          omega
        · rw [h4] at e
          have := Option.some.inj e
          have := k2.lt
          omega
  have d3' : ∀ (w12 : World) (A12 : Option Addr) (c12 : Nat), Grew W0.heap.size (((W0.alloc (.cells (boxR r A3 c3 B3 d3) 27)).alloc (.cells #[] 27)).drew) w12 (.slice (some ⟨W0.heap.size + 1, 0, none⟩) 0 0) (.slice A12 rs.length c12) → Own pRul 27 W0.heap.size (fun _ => True) w12 (.slice A12 rs.length c12) ([] ++ rs) →
      Below W0.heap.size W0 w12 ∧ SlAt pRul (fun k => Old w k ∨ k = W0.heap.size) w12 (some ⟨W0.heap.size, 0, none⟩) 1 [r] ∧ (∀ k, (Old w k ∨ k = W0.heap.size) → True ∧ k < w12.heap.size ∧ some k ≠ (Value.slice A12 rs.length c12).ownBlock) := fun w12 A12 c12 hgr hown => by
    have hb := (drew_below bbx).trans hgr.bel
    have hkb := k3.same (hgr.oth W0.heap.size k3.lt (fun e => by have : W0.heap.size = W0.heap.size + 1 := Option.some.inj e; omega))
    refine ⟨hb, src _ _ (hb0.trans (hb.mono (by omega))) hkb, fun k hk => ⟨trivial, ?_, fun e => ?_⟩⟩
    · have := hb.size
      have := hkb.lt
      rcases hk with hk | hk
      · have : k < w.heap.size := hk
        omega
      · omega
    · have h3 := hown.lt k e.symm
      rcases hk with hk | hk
      · have : k < w.heap.size := hk
        omega
      · rcases hgr.blk with h4 | ⟨q, h4, h5⟩
        · rw [h4] at e
          have : k = W0.heap.size + 1 := Option.some.inj e
          omega
        · rw [h4] at e
          have := Option.some.inj e
          have := k3.lt
          omega
  have fin : ∀ (W : World) (A13 : Option Addr) (c13 : Nat), Below W0.heap.size W0 W → Own pRul 27 W0.heap.size (fun _ => True) W (.slice A13 (rs.length + 1) c13) (([] ++ rs) ++ [r]) → MoreR rs r A3 c3 B3 d3 w (.slice A13 (rs.length + 1) c13) W := fun W A13 c13 hb hown => by
    refine ⟨A13, c13, rfl, ?_, hb0.trans (hb.mono (by omega)), hbl0.same (hb.block _ (by omega)), by have := hb.size; omega⟩
    have hs := (hown.sl'.2).wide (F' := Old W) fun q hq => hq.2
    rw [List.nil_append] at hs
    exact hs
  have y0 := hbl0.rul
  have H := Lib.hid h; clear h
  have H1 := Lib.hid h1; clear h1
  have Hf := Lib.hid hf; clear hf
  have Hg := Lib.hid hg; clear hg
  have Ho := Lib.hid ho; clear ho
  have HL := Lib.hid hL; clear hL
  have Hrl := Lib.hid hrl; clear hrl
  have Src := Lib.hid src; clear src
  have E1 := Lib.hid e1; clear e1
  have E2 := Lib.hid e2; clear e2
  have E3 := Lib.hid e3; clear e3
  have S1 := Lib.hid s1; clear s1
  have F1 := Lib.hid f1; clear f1
  have N1 := Lib.hid n1; clear n1
  have N2 := Lib.hid n2; clear n2
  have M1 := Lib.hid m1; clear m1
  have M2 := Lib.hid m2; clear m2
  have Y1 := Lib.hid y1; clear y1
  have Y2 := Lib.hid y2; clear y2
  have D1 := Lib.hid d1; clear d1
  have D2 := Lib.hid d2; clear d2
  have D3' := Lib.hid d3'; clear d3'
  have Fin := Lib.hid fin; clear fin
  have Hb0 := Lib.hid hb0; clear hb0
  have Hbl0 := Lib.hid hbl0; clear hbl0
  have Bx := Lib.hid bx; clear bx
  have Bxb := Lib.hid bxb; clear bxb
  have Bbx := Lib.hid bbx; clear bbx
  have K2 := Lib.hid k2; clear k2
  have K3 := Lib.hid k3; clear k3
  obtain ⟨x0, x1, x2, x3, x4, x5, x6⟩ := y0
  have hlt0 : w.heap.size < W0.heap.size := by omega
  clear hz0
  go_enter Tryd.func3, Tryd.ntmps3
  go_upto_region 1 with fail
  rw [← hW0]
  have HW0 := Lib.hid hW0; clear hW0
  go_cut [7] (fun s7 wx => MoreR rs r A3 c3 B3 d3 w s7 wx)
  case first =>
    go_region_law
      (first
        | (refine step_catB (E := pRul) (xs := []) (v := .slice (some ⟨W0.heap.size, 0, none⟩) 0 0) (base := W0.heap.size) (G := fun _ => True) 22 27 (.agg #[.int .u8 0, .int .i64 0, .int .u8 0, .int .u8 0, .slice none 0 0, .int .i64 0, .slice none 0 0]) 80 (.tmp 23) (.tmp 24) rfl rfl Tryd.underlying22 (by kernel_rfl) rfl (by decide) rfl E1.out A c rs rfl (Old w) (S1.out _ (drew_below Bx.out)) (F1.out _ _ (drew_below Bx.out) (Nat.le_refl _)) rs.length N1.out M1.out Y1.out q1 ?_; intro A12 c12 w12 hown12 hgr12; have kk := (Hbl0.out.same (((drew_below Bx.out).trans hgr12.out.bel).block _ hlt0)).rul; obtain ⟨u0, u1, u2, u3, u4, u5, u6⟩ := kk)
        | (refine step_catB (E := pRul) (xs := []) (v := .slice (some ⟨W0.heap.size, 0, none⟩) 0 0) (base := W0.heap.size) (G := fun _ => True) 22 27 (.agg #[.int .u8 0, .int .i64 0, .int .u8 0, .int .u8 0, .slice none 0 0, .int .i64 0, .slice none 0 0]) 80 (.tmp 23) (.tmp 24) rfl rfl Tryd.underlying22 (by kernel_rfl) rfl (by decide) rfl E2.out A c rs rfl (Old w) (S1.out _ (drew_below Bxb.out)) (F1.out _ _ (drew_below Bxb.out) (Nat.le_refl _)) rs.length N1.out M1.out Y1.out q2 ?_; intro A12 c12 w12 hown12 hgr12; have kk := (Hbl0.out.same (((drew_below Bxb.out).trans hgr12.out.bel).block _ hlt0)).rul; obtain ⟨u0, u1, u2, u3, u4, u5, u6⟩ := kk)
        | (refine step_catB (E := pRul) (xs := []) (v := .slice (some ⟨W0.heap.size + 1, 0, none⟩) 0 0) (base := W0.heap.size) (G := fun _ => True) 22 27 (.agg #[.int .u8 0, .int .i64 0, .int .u8 0, .int .u8 0, .slice none 0 0, .int .i64 0, .slice none 0 0]) 80 (.tmp 23) (.tmp 24) rfl rfl Tryd.underlying22 (by kernel_rfl) rfl (by decide) rfl E3.out A c rs rfl (Old w) (S1.out _ (drew_below Bbx.out)) (F1.out _ _ (drew_below Bbx.out) (Nat.le_succ _)) rs.length N1.out M1.out Y1.out q3 ?_; intro A12 c12 w12 hown12 hgr12; have kk := (Hbl0.out.same (((drew_below Bbx.out).trans hgr12.out.bel).block _ hlt0)).rul; obtain ⟨u0, u1, u2, u3, u4, u5, u6⟩ := kk)
        | (refine step_catB (E := pRul) (xs := [] ++ rs) (v := .slice A12 rs.length c12) (base := W0.heap.size) (G := fun _ => True) 22 27 (.agg #[.int .u8 0, .int .i64 0, .int .u8 0, .int .u8 0, .slice none 0 0, .int .i64 0, .slice none 0 0]) 80 (.tmp 25) (.tmp 27) rfl rfl Tryd.underlying22 (by kernel_rfl) rfl (by decide) rfl (hown12.out.alloc _) (some ⟨w12.heap.size, 0, none⟩) 1 [r] rfl (fun k => Old w k ∨ k = w12.heap.size) (D1.out w12 A12 c12 hgr12.out hown12.out).2.1 (D1.out w12 A12 c12 hgr12.out hown12.out).2.2 (rs.length + 1) N2.out M2.out Y2.out (D1.out w12 A12 c12 hgr12.out hown12.out).1.size ?_; intro A13 c13 w13 hown13 hgr13; have bel13 := (D1.out w12 A12 c12 hgr12.out hown12.out).1.trans hgr13.out.bel)
        | (refine step_catB (E := pRul) (xs := [] ++ rs) (v := .slice A12 rs.length c12) (base := W0.heap.size) (G := fun _ => True) 22 27 (.agg #[.int .u8 0, .int .i64 0, .int .u8 0, .int .u8 0, .slice none 0 0, .int .i64 0, .slice none 0 0]) 80 (.tmp 25) (.tmp 27) rfl rfl Tryd.underlying22 (by kernel_rfl) rfl (by decide) rfl hown12.out (some ⟨W0.heap.size + 1, 0, none⟩) 1 [r] rfl (fun k => Old w k ∨ k = W0.heap.size + 1) (D2.out w12 A12 c12 hgr12.out hown12.out).2.1 (D2.out w12 A12 c12 hgr12.out hown12.out).2.2 (rs.length + 1) N2.out M2.out Y2.out (D2.out w12 A12 c12 hgr12.out hown12.out).1.size ?_; intro A13 c13 w13 hown13 hgr13; have bel13 := (D2.out w12 A12 c12 hgr12.out hown12.out).1.trans hgr13.out.bel)
        | (refine step_catB (E := pRul) (xs := [] ++ rs) (v := .slice A12 rs.length c12) (base := W0.heap.size) (G := fun _ => True) 22 27 (.agg #[.int .u8 0, .int .i64 0, .int .u8 0, .int .u8 0, .slice none 0 0, .int .i64 0, .slice none 0 0]) 80 (.tmp 25) (.tmp 27) rfl rfl Tryd.underlying22 (by kernel_rfl) rfl (by decide) rfl hown12.out (some ⟨W0.heap.size, 0, none⟩) 1 [r] rfl (fun k => Old w k ∨ k = W0.heap.size) (D3'.out w12 A12 c12 hgr12.out hown12.out).2.1 (D3'.out w12 A12 c12 hgr12.out hown12.out).2.2 (rs.length + 1) N2.out M2.out Y2.out (D3'.out w12 A12 c12 hgr12.out hown12.out).1.size ?_; intro A13 c13 w13 hown13 hgr13; have bel13 := (D3'.out w12 A12 c12 hgr12.out hown12.out).1.trans hgr13.out.bel))
    all_goals
      have Bel13 := Lib.hid bel13; clear bel13
      go_wp2_with fail
      go_meet
      exact Fin.out _ _ _ Bel13.out hown13.out
  case rest =>
  obtain ⟨A1, c1, rfl, S1m, T1, Bx1, z1⟩ := hcut
  obtain ⟨w1, rfl⟩ : ∃ W : World, W = wc := ⟨_, rfl⟩
  have hlen1 : (rs ++ [r]).length = rs.length + 1 := by simp
  have hvc := valid_calls A1 c1 (rs ++ [r]) B cb ms w1 S1m.out (H1.out.later T1.out)
  rw [hlen1] at hvc
  have out : ∀ (W : World), Below w.heap.size w W → Calls Tryd.prog 5 #[] W fun e W' => e = .returned (.bool true) ∧ Hid (Below w.heap.size w W') := fun W hW => (alive_calls W (HL.out.later hW)).mono fun e W' hh => ⟨hh.1, hW.trans (hh.2.mono hW.size)⟩
  have Hvc := Lib.hid hvc; clear hvc
  have Out := Lib.hid out; clear out
  have Hlen1 := Lib.hid hlen1; clear hlen1
  clear x0 x1 x2 x3 x4 x5 x6 q1 q2 q3 Src E1 E2 E3 S1 F1 N1 N2 M1 M2 Y1 Y2 D1 D2 D3' Fin Bx Bxb Bbx K2 K3
  cases hv : validQ (rs ++ [r]) ms
  · go_wp2_with fail
    refine Hvc.out.mono ?_
    rintro e w3 ⟨rfl, b3⟩
    rw [hv]
    have T3 := Lib.hid (T1.out.trans (b3.mono T1.out.size)); clear b3
    go_wp2_with fail
    refine (Out.out w3 T3.out).mono ?_
    rintro e w4 ⟨rfl, b4⟩
    go_wp2
    go_ret
    exact ⟨rfl, b4.out⟩
  obtain ⟨hs, hr, hw⟩ := validQ_yes hv
  have hsr : Small rs := small_sub hs (fun x hx => by simp [hx]) (by have := hs.l; rw [Hlen1.out] at this; omega)
  have hrs := checkR_sub hr (rs := rs) (fun x hx => List.mem_append_left _ hx) (by simp)
  have hlw := check_len hw
  have hll := hsr.l
  go_wp2_with fail
  refine Hvc.out.mono ?_
  rintro e w2 ⟨rfl, b2⟩
  rw [hv]
  have T2 := Lib.hid (T1.out.trans (b2.mono T1.out.size))
  have S2m := Lib.hid (S1m.out.later b2)
  have Bx2 := Lib.hid (Bx1.out.same (b2.block _ (by omega)))
  have z2 : w.heap.size + 1 ≤ w2.heap.size := Nat.le_trans z1 b2.size
  clear b2 hv
  have hu0 : false = uselessF (rs.take 0) r := rfl
  have Hs := Lib.hid hs; clear hs
  have Hr := Lib.hid hr; clear hr
  have Hw := Lib.hid hw; clear hw
  have Hsr := Lib.hid hsr; clear hsr
  have Hrs := Lib.hid hrs; clear hrs
  have Hu0 := Lib.hid hu0; clear hu0
  go_wp2
  go_loopw [9, 8] (fun iv uv wr => ∃ (k : Nat) (b : Bool), k ≤ rs.length ∧ iv = .int .i64 k ∧ uv = .bool b ∧ w2.heap.size ≤ wr.heap.size ∧ Hid (Below w2.heap.size w2 wr) ∧ Hid (b = uselessF (rs.take k) r)) (fun iv _ _ => rs.length - (intOf iv).toNat)
  case atStart => exact ⟨0, false, Nat.zero_le _, rfl, rfl, Nat.le_refl _, Below.refl _ _, Hu0⟩
  case round =>
    obtain ⟨k, b, hk, rfl, rfl, hsz, hb, hub⟩ := hrel
    obtain ⟨wo, rfl⟩ : ∃ wo : World, wo = wr := ⟨_, rfl⟩
    have hbw : Below w.heap.size w wo := T2.out.trans (hb.out.mono (by omega))
    by_cases hlt : k < rs.length
    case pos =>
      obtain ⟨b7, o7, A7, c7, A8, c8, q, hdr, hA7, hob7, k0, k1, k2, k3, k4, k5, k6, hfits, hgs, hos, hgl, hol⟩ := (H.out.below hbw).getRul hlt
      subst hA7
      have hbx := (Bx2.out.same (hb.out.block _ (by omega))).rul
      obtain ⟨x0, x1, x2, x3, x4, x5, x6⟩ := hbx
      have n0 : (0 : Int) ≤ (k : Int) := Int.natCast_nonneg _
      have n1 : (k : Int) < (rs.length : Int) := by omega
      have hnext : uselessF (rs.take (k + 1)) r = (uselessF (rs.take k) r || (q.name == r.name && (q.arity == r.arity && decide (q.guards.length = 0)))) := by
        unfold uselessF
        rw [take_of_drop hdr.out, List.any_append, List.any_cons, List.any_nil, Bool.or_false]
      have fin : ∀ (b' : Bool) (W : World), Below wo.heap.size wo W → b' = (b || (q.name == r.name && (q.arity == r.arity && decide (q.guards.length = 0)))) → ∃ (k_1 : Nat) (b_1 : Bool), k_1 ≤ rs.length ∧ Value.int .i64 ((k : Int) + 1) = .int .i64 k_1 ∧ Value.bool b' = .bool b_1 ∧ w2.heap.size ≤ W.heap.size ∧ Hid (Below w2.heap.size w2 W) ∧ Hid (b_1 = uselessF (rs.take k_1) r) := fun b' W hW hb' =>
        ⟨k + 1, b', hlt, by go_num, rfl, Nat.le_trans hsz hW.size, hb.out.trans (hW.mono hsz), by unfold Hid; rw [hnext, ← hub.out]; exact hb'⟩
      have Hfits := Lib.hid hfits; clear hfits
      have Hnext := Lib.hid hnext; clear hnext
      have Fin := Lib.hid fin; clear fin
      have Hdr := Lib.hid hdr; clear hdr
      have Hbw := Lib.hid hbw; clear hbw
      clear k2 k3 k5 k6 x2 x3 x4 x5 x6
      cases b
      case true => as_aux_lemma =>
        go_upto_region 8 with fail
        go_quiet (fail)
        have hw5 := below_drewN (Below.refl wo.heap.size wo) nq
        generalize wo.drewN nq = w5 at hw5 ⊢
        have Hw5 := Lib.hid hw5; clear hw5
        clear k0 k1 k4 x0 x1
        go_wp2
        go_roundw
        case rel => exact Fin.out true w5 Hw5.out rfl
        case measure => simp [intOf]; omega
      case false =>
      cases hn : (q.name == r.name)
      case false => as_aux_lemma =>
        go_upto_region 8 with fail
        go_quiet (fail)
        have hw5 := below_drewN (Below.refl wo.heap.size wo) nq
        generalize wo.drewN nq = w5 at hw5 ⊢
        have Hw5 := Lib.hid hw5; clear hw5
        clear k0 k1 k4 x0 x1
        go_wp2
        go_roundw
        case rel => exact Fin.out false w5 Hw5.out (by rw [hn]; rfl)
        case measure => simp [intOf]; omega
      case true =>
      cases ha : (q.arity == r.arity)
      case false => as_aux_lemma =>
        go_upto_region 8 with fail
        go_quiet (fail)
        have hw5 := below_drewN (Below.refl wo.heap.size wo) nq
        generalize wo.drewN nq = w5 at hw5 ⊢
        have Hw5 := Lib.hid hw5; clear hw5
        clear k0 k1 k4 x0 x1
        go_wp2
        go_roundw
        case rel => exact Fin.out false w5 Hw5.out (by rw [hn, ha]; rfl)
        case measure => simp [intOf]; omega
      case true =>
      obtain ⟨gl, hgl2⟩ : ∃ gl, q.guards.length = gl := ⟨_, rfl⟩
      rw [hgl2] at k4 hgl
      by_cases hg0 : gl = 0
      · subst hg0
        as_aux_lemma =>
        go_upto_region 8 with fail
        go_quiet (fail)
        have hw5 := below_drewN (Below.refl wo.heap.size wo) nq
        generalize wo.drewN nq = w5 at hw5 ⊢
        have Hw5 := Lib.hid hw5; clear hw5
        clear k0 k1 k4 x0 x1
        go_wp2
        go_roundw
        case rel => exact Fin.out true w5 Hw5.out (by rw [hn, ha, hgl2]; rfl)
        case measure => simp [intOf]; omega
      · have eg : ((gl : Int) == 0) = false := by simp; omega
        have eg2 : (gl == 0) = false := by simp; omega
        as_aux_lemma =>
        go_upto_region 8 with fail
        go_quiet (fail)
        have hw5 := below_drewN (Below.refl wo.heap.size wo) nq
        generalize wo.drewN nq = w5 at hw5 ⊢
        have Hw5 := Lib.hid hw5; clear hw5
        clear k0 k1 k4 x0 x1
        go_wp2
        go_roundw
        case rel => exact Fin.out false w5 Hw5.out (by rw [hn, ha, hgl2, decide_eq_false hg0]; rfl)
        case measure => simp [intOf]; omega
    case neg =>
      obtain rfl : k = rs.length := by omega
      have hub2 := hub.out
      rw [List.take_length] at hub2
      have S5m := Lib.hid (S2m.out.later hb.out)
      obtain ⟨⟨x, ec⟩, hx⟩ : ∃ q, rStepF rs ms = q := ⟨_, rfl⟩
      obtain ⟨⟨y, fc⟩, hy⟩ : ∃ q, rStepF (rs ++ [r]) ms = q := ⟨_, rfl⟩
      have st1 := rStep_calls A c rs B cb ms wo (H.out.later hbw) (H1.out.later hbw) Hsr.out
      unfold RStepPost at st1
      rw [hx] at st1
      have hxy : b = true → (y = x ∧ fc = ec) := fun e => by
        have h := step_useless (ms := ms) (by rw [← hub2]; exact e) Hr.out Hw.out
        rw [hy, hx] at h
        exact ⟨congrArg Prod.fst h, congrArg Prod.snd h⟩
      have Tb := Lib.hid hbw
      have Hub2 := Lib.hid hub2; clear hub2
      have Hx := Lib.hid hx; clear hx
      have Hy := Lib.hid hy; clear hy
      have St1 := Lib.hid st1; clear st1
      have Hxy := Lib.hid hxy; clear hxy
      clear hbw
      go_wp2_with fail
      refine St1.out.mono ?_
      rintro e w5 ⟨A5, c5, rfl, o5, b5⟩
      have T5 := Lib.hid (Tb.out.trans (b5.mono Tb.out.size))
      have X5 := Lib.hid (ownF_sl o5)
      have st2 := rStep_calls A1 c1 (rs ++ [r]) B cb ms w5 (S5m.out.later b5) (H1.out.later T5.out) Hs.out
      rw [Hlen1.out] at st2
      unfold RStepPost at st2
      rw [Hy.out] at st2
      have St2 := Lib.hid st2; clear st2
      clear b5 o5
      go_wp2_with fail
      refine St2.out.mono ?_
      rintro e w6 ⟨A6, c6, rfl, o6, b6⟩
      have T6 := Lib.hid (T5.out.trans (b6.mono T5.out.size))
      have X6 := Lib.hid (X5.out.later b6)
      have Y6 := Lib.hid (ownF_sl o6)
      clear b6 o6
      go_upto_region 11 with fail
      go_cut [93] (fun s93 wx => s93 = .bool false ∧ Hid (Below w6.heap.size w6 wx))
      case first =>
        cases b
        · go_wp2_with fail
          go_meet
          exact ⟨rfl, Below.refl _ _⟩
        · obtain ⟨rfl, rfl⟩ := Hxy.out rfl
          have efc : (fc != fc) = false := bne_self_eq_false fc
          have pk := refSame_calls A5 A6 c5 c6 y y w6 X6.out Y6.out
          rw [beq_self_eq_true] at pk
          have Pk := Lib.hid pk; clear pk
          go_wp2_with fail
          refine Pk.out.mono ?_
          rintro e w7 ⟨rfl, b7⟩
          have B7 := Lib.hid b7; clear b7
          go_wp2_with fail
          go_meet
          exact ⟨rfl, B7⟩
      case rest =>
      obtain ⟨rfl, hbc⟩ := hcut
      obtain ⟨w7, rfl⟩ : ∃ W : World, W = wc := ⟨_, rfl⟩
      have T7 := Lib.hid (T6.out.trans (hbc.out.mono T6.out.size))
      have X7 := Lib.hid (X6.out.later hbc.out)
      have z7 := T7.out.size
      clear X6 Y6 X5 T5 T6 hbc Hxy Hub2 hub St1 St2 S5m
      by_cases hec : ec = 0
      case neg =>
        have ee1 : (ec == 0) = false := by simpa using hec
        have ee2 : (ec != 0) = true := by simpa using hec
        go_wp2
        go_loopw [15, 14] (fun iv av wr => iv = .int .i64 0 ∧ av = .slice none 0 0 ∧ Hid (Below w.heap.size w wr)) (fun _ _ _ => 0)
        case atStart => exact ⟨rfl, rfl, T7⟩
        case round =>
          obtain ⟨rfl, rfl, hb7⟩ := hrel
          by_cases hl0 : 0 < ms.length
          all_goals
            go_wp2_with fail
            refine (Out.out _ hb7.out).mono ?_
            rintro e w9 ⟨rfl, b9⟩
            go_wp2
            go_ret
            exact ⟨rfl, b9.out⟩
      case pos =>
      subst hec
      obtain ⟨hall1, hall2, hall3⟩ := list_all Hx.out Hrs.out Hw.out
      have hsl : (succF rs ms).length ≤ 2000 := by
        have h := congrArg List.length hall1
        unfold listF at h
        rw [List.length_map, List.take_length] at h
        omega
      have hlk := fun (k : Nat) => list_le (rs := rs) (ms := ms) k
      have hcore : rs.all coreR = true := List.all_eq_true.2 fun q hq => by
        have h1 := List.all_eq_true.1 (checkR_core Hrs.out) q hq
        exact h1
      have hfine := checkF_fine Hw.out
      have hl0 : Hid (listF rs ms 0 = []) := list_zero rs ms
      have Hall1 := Lib.hid hall1; clear hall1
      have Hall2 := Lib.hid hall2; clear hall2
      have Hsl := Lib.hid hsl; clear hsl
      have Hlk := Lib.hid hlk; clear hlk
      have Hcore := Lib.hid hcore; clear hcore
      have Hfine := Lib.hid hfine; clear hfine
      go_wp2
      go_loopw [15, 14, 6] (fun iv av rv wr => ∃ (k n : Nat) (Ao : Option Addr) (co : Nat), k ≤ ms.length ∧ iv = .int .i64 k ∧ av = .slice Ao n co ∧ rv = .bool false ∧ w7.heap.size ≤ wr.heap.size ∧ Hid (Below w7.heap.size w7 wr) ∧ Hid ((listF rs ms k).length = n) ∧
        Hid (Own pMod 38 w7.heap.size (fun q => Old w q ∨ w7.heap.size ≤ q) wr (.slice Ao n co) (listF rs ms k))) (fun iv _ _ _ => ms.length - (intOf iv).toNat)
      case atStart => exact ⟨0, 0, none, 0, Nat.zero_le _, rfl, rfl, rfl, Nat.le_refl _, Below.refl _ _, by unfold Hid; rw [hl0.out]; rfl, by unfold Hid; rw [hl0.out]; exact Own.nil⟩
      case round =>
        obtain ⟨k, n, Ao, co, hk, rfl, rfl, rfl, hsz, hb, hln, hown⟩ := hrel
        obtain ⟨wo, rfl⟩ : ∃ wo : World, wo = wr := ⟨_, rfl⟩
        have hbw : Below w.heap.size w wo := T7.out.trans (hb.out.mono z7)
        have hn2 : n ≤ 2000 := by
          have h1 := Hlk.out k
          have h2 := Hsl.out
          rw [hln.out] at h1
          omega
        by_cases hlt : k < ms.length
        case neg =>
          obtain rfl : k = ms.length := by omega
          have hown' := hown.out
          rw [Hall1.out] at hown'
          have hxn : x.length = n := by rw [← Hall1.out]; exact hln.out
          have sx := (hown'.sl'.2).wide (F' := Old wo) fun q hq => hq.2
          have pk := refSame_calls Ao A5 co c5 x x wo sx (X7.out.later hb.out)
          rw [beq_self_eq_true, hxn] at pk
          have Hown' := Lib.hid hown'; clear hown'
          have Sx := Lib.hid sx; clear sx
          have Pk := Lib.hid pk; clear pk
          have Hbw := Lib.hid hbw; clear hbw
          clear hown
          go_wp2_with fail
          refine Pk.out.mono ?_
          rintro e w9 ⟨rfl, b9⟩
          have T9 := Lib.hid (Hbw.out.trans (b9.mono (by omega))); clear b9
          go_wp2_with fail
          refine (Out.out w9 T9.out).mono ?_
          rintro e w10 ⟨rfl, b10⟩
          go_wp2
          go_ret
          exact ⟨rfl, b10.out⟩
        case pos =>
        obtain ⟨bm, om, D, d, m, hd, hB, hobm, q0, q1, hx8, hxa, hxl⟩ := (H1.out.below hbw).getMod hlt
        subst hB
        have hobw : bm < w.heap.size := hobm
        have hfm := Hfine.out m (mem_of_drop hd.out)
        have hargs := fine_args hfm
        have hfd : findF rs m = (firstF rs m, 0) := by unfold findF; rw [if_pos Hrs.out, if_pos hfm]
        have hfc := rFind_calls A c rs D d m wo (H.out.later hbw) (hxa.out.wide fun q hq => by have : q < w.heap.size := hq; have := hbw.size; show q < _; omega) hx8 Hsr.out
        rw [hfd] at hfc
        have mcell : ∀ W, Below w.heap.size w W → W.cell? ⟨bm, om + k * 2, none⟩ = some (.int .u8 m.name) ∧ W.cell? ⟨bm, om + k * 2 + 1, none⟩ = some (.slice D m.args.length d) := fun W hW =>
          ⟨(cell_keep (o := om + k * 2) ((hW.block bm hobw).trans (hbw.block bm hobw).symm)).trans q0, (cell_keep (o := om + k * 2 + 1) ((hW.block bm hobw).trans (hbw.block bm hobw).symm)).trans q1⟩
        have margs : ∀ W, Below w.heap.size w W → SlAt (pI .i64) (Old w) W D d m.args := fun W hW => hxa.out.keep fun q hq => (hW.block q hq).trans (hbw.block q hq).symm
        have k0 : (0 : Int) ≤ (k : Int) := Int.natCast_nonneg _
        have k1 : (k : Int) < (ms.length : Int) := by omega
        rcases firstFrom_none (m := m) (rs := rs) (k := 0) with hneg | ⟨j, hpos, _, hj⟩
        · have hneg' : firstF rs m = -1 := hneg
          have hkeep := list_keep (rs := rs) hd.out (by rw [hneg']; decide)
          rw [hneg'] at hfc
          have t1 : ¬ (rs.length : Int) ≤ -1 := by omega
          have Hd := Lib.hid hd; clear hd
          have Hfm := Lib.hid hfm; clear hfm
          have Hargs := Lib.hid hargs; clear hargs
          have Hfd := Lib.hid hfd; clear hfd
          have Hfc := Lib.hid hfc; clear hfc
          have Mcell := Lib.hid mcell; clear mcell
          have Margs := Lib.hid margs; clear margs
          have Hkeep := Lib.hid hkeep; clear hkeep
          have Hneg := Lib.hid hneg; clear hneg
          have Hneg' := Lib.hid hneg'; clear hneg'
          have Hbw := Lib.hid hbw; clear hbw
          go_wp2_with fail
          refine Hfc.out.mono ?_
          rintro e w9 ⟨rfl, b9⟩
          have B9 := Lib.hid (hb.out.trans (b9.mono hsz))
          have T9 := Lib.hid (T7.out.trans (B9.out.mono z7))
          have z9 : w7.heap.size ≤ w9.heap.size := B9.out.size
          obtain ⟨u0, u1⟩ := Mcell.out w9 T9.out
          have o9 := hown.out.later b9
          have hR : pMod.R (Old w) w9 (Value.agg #[.int .u8 m.name, .slice D m.args.length d]).cells.toList m := ⟨D, d, rfl, hx8, Margs.out w9 T9.out⟩
          have hF : ∀ q, Old w q → (Old w q ∨ w7.heap.size ≤ q) ∧ q < w9.heap.size ∧ some q ≠ (Value.slice Ao n co).ownBlock := fun q hq => ⟨.inl hq, by have : q < w.heap.size := hq; omega, fun e => by have := o9.lt q e.symm; have : q < w.heap.size := hq; omega⟩
          have hn1 : (listF rs ms k).length + 1 = n + 1 := by rw [hln.out]
          have hrm : Room (listF rs ms k).length := room_of (by rw [hln.out]; omega)
          have O9 := Lib.hid o9; clear o9
          have HR := Lib.hid hR; clear hR
          have HF := Lib.hid hF; clear hF
          have Hn1 := Lib.hid hn1; clear hn1
          have Hrm := Lib.hid hrm; clear hrm
          clear b9 q0 q1 hown
          go_wp2_with ((with_reducible show wpList _ _ _ (Oper.mk (some 132) _ _ _ _ _ :: _) _ _); refine wpList_pushG (E := pMod) (xs := listF rs ms k) (v := .slice Ao n co) (base := w7.heap.size) (G := fun q => Old w q ∨ w7.heap.size ≤ q) 23 38 (.agg #[.int .u8 0, .slice none 0 0]) 32 132 (.tmp 127) (.tmp 131) rfl rfl rfl rfl rfl Tryd.underlying23 info_mod rfl (by decide) (fun _ => rfl) (fun _ => rfl) O9.out (.agg #[.int .u8 m.name, .slice D m.args.length d]) rfl m (Old w) HR.out HF.out (n + 1) Hn1.out Hrm.out ⟨by decide, by decide⟩ z9 ?_; intro A10 c10 w10 hown10 hg10)
          go_roundw
          case rel => exact ⟨k + 1, n + 1, A10, c10, hlt, by go_num, rfl, rfl, Nat.le_trans z9 hg10.out.bel.size, B9.out.trans hg10.out.bel, by unfold Hid; rw [Hkeep.out, List.length_append, hln.out]; rfl, by unfold Hid; rw [Hkeep.out]; exact hown10.out⟩
          case measure => simp [intOf]; omega
        · have hpos' : firstF rs m = (j : Int) := hpos
          have hjl : j < rs.length := by omega
          obtain ⟨b7, o7, A7, c7, A8, c8, r', hdr, hA7, hob7, k0', k1', k2', k3', k4', k5', k6', hfits, hgs, hos, hgl, hol⟩ := (H.out.below hbw).getRul hjl
          subst hA7
          have hob7w : b7 < w.heap.size := hob7
          have hrj := get_of_drop hdr.out
          have hco := List.all_eq_true.1 Hcore.out r' (mem_of_drop hdr.out)
          have hfit : fitsF r' m = true := by
            obtain ⟨q, e1, e2⟩ := first_fits hpos'
            rw [hrj] at e1
            cases e1
            exact e2
          have hmade := list_made (rs := rs) hd.out hpos' hrj
          have hok := made_ok Hall2.out hd.out hpos' hrj
          have h4 := (fit_sums hco hfit hargs).2
          have ho30 := Hsr.out.o r' (mem_of_drop hdr.out)
          have rcell : ∀ W, Below w.heap.size w W → W.cell? ⟨b7, o7 + j * 7 + 6, none⟩ = some (.slice A8 r'.out.length c8) := fun W hW => (cell_keep (o := o7 + j * 7 + 6) ((hW.block b7 hob7w).trans (hbw.block b7 hob7w).symm)).trans k6'
          have outs : ∀ W, Below w.heap.size w W → SlAt pShp (Old w) W A8 c8 r'.out := fun W hW => hos.out.keep fun q hq => (hW.block q hq).trans (hbw.block q hq).symm
          have hvo := fun (s : Shp) (hs : s ∈ r'.out) (f : Frm) (hf : f ∈ s.args) => value_of hco hfit hargs hs (hok s hs) hf
          have hvb := fun (s : Shp) (hs : s ∈ r'.out) (f : Frm) (hf : f ∈ s.args) => argOk_le (List.all_eq_true.1 (hok s hs) f hf)
          rw [hpos'] at hfc
          have t1 : ¬ ((j : Int) < -1) := by omega
          have t2 : ¬ (rs.length : Int) ≤ (j : Int) := by omega
          have t3 : ¬ (j : Int) < 0 := by omega
          have t4 : (0 : Int) ≤ (j : Int) := Int.natCast_nonneg _
          have t5 : (j : Int) < (rs.length : Int) := by omega
          clear k0' k1' k2' k3' k4' k5' k6'
          have Hd := Lib.hid hd; clear hd
          have Hfm := Lib.hid hfm; clear hfm
          have Hargs := Lib.hid hargs; clear hargs
          have Hfd := Lib.hid hfd; clear hfd
          have Hfc := Lib.hid hfc; clear hfc
          have Mcell := Lib.hid mcell; clear mcell
          have Margs := Lib.hid margs; clear margs
          have Hpos := Lib.hid hpos; clear hpos
          have Hpos' := Lib.hid hpos'; clear hpos'
          have Hdr := Lib.hid hdr; clear hdr
          have Hrj := Lib.hid hrj; clear hrj
          have Hco := Lib.hid hco; clear hco
          have Hfit := Lib.hid hfit; clear hfit
          have Hmade := Lib.hid hmade; clear hmade
          have Hok := Lib.hid hok; clear hok
          have H4 := Lib.hid h4; clear h4
          have Rcell := Lib.hid rcell; clear rcell
          have Outs := Lib.hid outs; clear outs
          have Hvo := Lib.hid hvo; clear hvo
          have Hvb := Lib.hid hvb; clear hvb
          have Hfits := Lib.hid hfits; clear hfits
          have Hgs := Lib.hid hgs; clear hgs
          have Hos := Lib.hid hos; clear hos
          have Hbw := Lib.hid hbw; clear hbw
          go_wp2_with fail
          refine Hfc.out.mono ?_
          rintro e w9 ⟨rfl, b9⟩
          have B9 := Lib.hid (hb.out.trans (b9.mono hsz))
          have T9 := Lib.hid (T7.out.trans (B9.out.mono z7))
          have z9 : w7.heap.size ≤ w9.heap.size := B9.out.size
          have o9 := hown.out.later b9
          have hnil : listF rs ms k ++ ((r'.out.take 0).map fun s => (outF m.args s).1) = listF rs ms k := by simp
          have O9 := Lib.hid o9; clear o9
          have Hnil := Lib.hid hnil; clear hnil
          clear b9 q0 q1 hown
          go_wp2
          go_loopw [18, 14, 6] (fun zq av rv wr => ∃ (q : Nat) (Aq : Option Addr) (cq : Nat), q ≤ r'.out.length ∧ zq = .int .i64 q ∧ av = .slice Aq (n + q) cq ∧ rv = .bool false ∧ Hid (Below w7.heap.size w7 wr) ∧ w7.heap.size ≤ wr.heap.size ∧
            Hid (Own pMod 38 w7.heap.size (fun q => Old w q ∨ w7.heap.size ≤ q) wr (.slice Aq (n + q) cq) (listF rs ms k ++ ((r'.out.take q).map fun s => (outF m.args s).1)))) (fun zq _ _ _ => r'.out.length - (intOf zq).toNat)
          case atStart => exact ⟨0, Ao, co, Nat.zero_le _, rfl, rfl, rfl, B9, z9, by unfold Hid; rw [Hnil.out]; exact O9.out⟩
          case round =>
            obtain ⟨q, Aq, cq, hq, rfl, rfl, rfl, hb4, hsz4, hown4⟩ := hrel
            obtain ⟨wi, rfl⟩ : ∃ wi : World, wi = wr := ⟨_, rfl⟩
            have Tw := T7.out.trans (hb4.out.mono z7)
            have rc := Rcell.out wi Tw
            have hlx : (listF rs ms k ++ ((r'.out.take q).map fun s => (outF m.args s).1)).length = n + q := by rw [List.length_append, hln.out, List.length_map, List.length_take]; omega
            by_cases hlq : q < r'.out.length
            case neg =>
              obtain rfl : q = r'.out.length := by omega
              have hown5 := hown4.out
              rw [List.take_length] at hown5
              have hsn : listF rs ms (k + 1) = listF rs ms k ++ (r'.out.map fun s => (outF m.args s).1) := Hmade.out
              rw [List.take_length] at hlx
              rw [← hsn] at hown5 hlx
              have Hown5 := Lib.hid hown5; clear hown5
              have Hlx := Lib.hid hlx; clear hlx
              have Hsn := Lib.hid hsn; clear hsn
              have Tw := Lib.hid Tw; clear Tw
              go_wp2
              go_roundw
              case rel => exact ⟨k + 1, n + r'.out.length, Aq, cq, hlt, by go_num, rfl, rfl, hsz4, hb4, Hlx, Hown5⟩
              case measure => simp [intOf]; omega
            case pos =>
              obtain ⟨b8, o8, As, cs, s, hds, hA8, hob8, s0, s1, hs8, hsa, hsl⟩ := (Outs.out wi Tw).getShp hlq
              subst hA8
              have hob8w : b8 < w.heap.size := hob8
              have hsm := mem_of_drop hds.out
              have hl4 := H4.out s hsm
              obtain ⟨wq0, hwq⟩ : ∃ wq, wq = wi.alloc (.cells #[.int .u8 s.name, .slice none 0 0] 38) := ⟨_, rfl⟩
              have hbq0 : Below wi.heap.size wi wq0 := by rw [hwq]; exact (Below.refl _ _).alloc (Nat.le_refl _) _
              have hzq0 : wi.heap.size + 1 ≤ wq0.heap.size := by rw [hwq]; simp
              have hbm0 : Blk wq0 wi.heap.size 38 #[.int .u8 s.name, .slice none 0 0] := by rw [hwq]; exact Blk.new _ _ _
              have how0 : Own (pI .i64) 3 (wi.heap.size + 1) (fun _ => False) wq0 (.slice none 0 0) ((s.args.take 0).map fun f => worthF f m.args) := Own.nil
              have scell : ∀ W, Below w.heap.size w W → W.cell? ⟨b8, o8 + q * 2 + 1, none⟩ = some (.slice As s.args.length cs) := fun W hW => (cell_keep (o := o8 + q * 2 + 1) ((hW.block b8 hob8w).trans (Tw.block b8 hob8w).symm)).trans s1
              have sargs : ∀ W, Below w.heap.size w W → SlAt pFrm (Old w) W As cs s.args := fun W hW => hsa.out.keep fun q hq => (hW.block q hq).trans (Tw.block q hq).symm
              have hq0 : (0 : Int) ≤ (q : Int) := Int.natCast_nonneg _
              have hq1 : (q : Int) < (r'.out.length : Int) := by omega
              have Hsm := Lib.hid hsm; clear hsm
              have Hbq0 := Lib.hid hbq0; clear hbq0
              have Hbm0 := Lib.hid hbm0; clear hbm0
              have How0 := Lib.hid how0; clear how0
              have Hds := Lib.hid hds; clear hds
              have Scell := Lib.hid scell; clear scell
              have Sargs := Lib.hid sargs; clear sargs
              have Hlx := Lib.hid hlx; clear hlx
              have Tw := Lib.hid Tw; clear Tw
              go_wp2
              rw [← hwq]
              have Hwq := Lib.hid hwq; clear hwq
              clear s0 s1 rc
              go_loopw [20, 6] (fun z rv wr => ∃ (k3 : Nat) (Dv : Option Addr) (dv : Nat), k3 ≤ s.args.length ∧ z = .int .i64 k3 ∧ rv = .bool false ∧ Hid (Below wi.heap.size wi wr) ∧ wi.heap.size + 1 ≤ wr.heap.size ∧ Hid (Blk wr wi.heap.size 38 #[.int .u8 s.name, .slice Dv k3 dv]) ∧
                Hid (Own (pI .i64) 3 (wi.heap.size + 1) (fun _ => False) wr (.slice Dv k3 dv) ((s.args.take k3).map fun f => worthF f m.args))) (fun z _ _ => s.args.length - (intOf z).toNat)
              case atStart => exact ⟨0, none, 0, Nat.zero_le _, rfl, rfl, Hbq0, hzq0, Hbm0, How0⟩
              case round =>
                obtain ⟨k3, Dv, dv, hk3m, rfl, rfl, hbq, hzq, hbm, how⟩ := hrel
                obtain ⟨wq, rfl⟩ : ∃ wq : World, wq = wr := ⟨_, rfl⟩
                have Tq := T7.out.trans ((hb4.out.trans (hbq.out.mono hsz4)).mono z7)
                have rc := Rcell.out wq Tq
                have sc := Scell.out wq Tq
                have m0 := hbm.out.cell 0
                have m1 := hbm.out.cell 1
                by_cases hlt3 : k3 < s.args.length
                case neg =>
                  obtain rfl : k3 = s.args.length := by omega
                  have how' := how.out
                  rw [List.take_length] at how'
                  obtain ⟨A3', c9, e3, hsl3⟩ := (how'.flat (pI_flat _) (G' := (wi.heap.size + 1 ≤ ·))).fresh
                  rw [List.length_map] at e3
                  injection e3 with e31 e32 e33
                  subst e31 e33
                  have hR : pMod.R (fun q => wi.heap.size + 1 ≤ q ∧ q < wq.heap.size) wq (Value.agg #[.int .u8 s.name, .slice Dv s.args.length dv]).cells.toList (outF m.args s).1 := ⟨Dv, dv, by simp [outF, Value.cells], hs8, hsl3⟩
                  have howq := hown4.out.later hbq.out
                  have hF : ∀ x, (wi.heap.size + 1 ≤ x ∧ x < wq.heap.size) → (Old w x ∨ w7.heap.size ≤ x) ∧ x < wq.heap.size ∧ some x ≠ (Value.slice Aq (n + q) cq).ownBlock := fun x hx => ⟨.inr (by omega), hx.2, fun he => by have := (hown4.out.lt x he.symm).2; omega⟩
                  have hlk1 : (listF rs ms k ++ ((r'.out.take q).map fun s => (outF m.args s).1)).length + 1 = n + q + 1 := by rw [Hlx.out]
                  have hrk : Room (listF rs ms k ++ ((r'.out.take q).map fun s => (outF m.args s).1)).length := room_of (by rw [Hlx.out]; omega)
                  have hba : w7.heap.size ≤ wq.heap.size := by omega
                  have HR := Lib.hid hR; clear hR
                  have Howq := Lib.hid howq; clear howq
                  have HF := Lib.hid hF; clear hF
                  have Hlk1 := Lib.hid hlk1; clear hlk1
                  have Hrk := Lib.hid hrk; clear hrk
                  have Tq := Lib.hid Tq; clear Tq
                  clear how' hsl3
                  go_wp2_with ((with_reducible show wpList _ _ _ (Oper.mk (some 199) _ _ _ _ _ :: _) _ _); refine wpList_pushG (E := pMod) (xs := listF rs ms k ++ ((r'.out.take q).map fun s => (outF m.args s).1)) (v := .slice Aq (n + q) cq) (base := w7.heap.size) (G := fun q => Old w q ∨ w7.heap.size ≤ q) 23 38 (.agg #[.int .u8 0, .slice none 0 0]) 32 199 (.tmp 197) (.tmp 198) rfl rfl rfl rfl rfl Tryd.underlying23 info_mod rfl (by decide) (fun _ => rfl) (fun _ => rfl) Howq.out (.agg #[.int .u8 s.name, .slice Dv s.args.length dv]) rfl (outF m.args s).1 (fun x => wi.heap.size + 1 ≤ x ∧ x < wq.heap.size) HR.out HF.out (n + q + 1) Hlk1.out Hrk.out ⟨by decide, by decide⟩ hba ?_; intro A10 c10 w10 hown10 hg10)
                  go_roundw
                  case rel =>
                    have hz6 := hg10.out.bel.size
                    refine ⟨.bool false, .slice A10 (n + q + 1) c10, .int .i64 ((q : Int) + 1), ⟨q + 1, hlq, by go_num, A10, c10, rfl, rfl, (hb4.out.trans (hbq.out.mono hsz4)).trans hg10.out.bel, by omega, ?_⟩, rfl, rfl, rfl⟩
                    unfold Hid; rw [← List.map_take, take_of_drop Hds.out, List.map_append, ← List.append_assoc]; exact hown10.out
                  case measure => simp [intOf]; omega
                case pos =>
                  obtain ⟨b6, o6, A6', c6', f, hdf, hAf, hob6, f0, f1, hfc6, hfa, hfl⟩ := (Sargs.out wq Tq).getFrm hlt3
                  subst hAf
                  have hob6w : b6 < w.heap.size := hob6
                  have hvf := Hvo.out s Hsm.out f (mem_of_drop hdf.out)
                  have hvbd := Hvb.out s Hsm.out f (mem_of_drop hdf.out)
                  obtain ⟨u0, u1⟩ := Mcell.out wq Tq
                  have v0 := cell_regrown f0
                  have v1 := cell_regrown f1
                  have v2 := cell_regrown rc
                  have v3 := cell_regrown sc
                  have v4 := cell_regrown u1
                  have k30 : (0 : Int) ≤ (k3 : Int) := Int.natCast_nonneg _
                  have k31 : (k3 : Int) < (s.args.length : Int) := by omega
                  have hcq := hfa
                  have haq := Margs.out wq Tq
                  have hzw : w.heap.size ≤ wq.heap.size := Tq.size
                  have hcall : ∀ (dd : Nat) (os : Array Obj), Calls Tryd.prog 9 #[.agg #[.int .i64 f.const, .slice A6' f.coefs.length c6'], .slice D m.args.length d] (grow (redrawn wq dd) os) fun e w'' => e = .returned (.tuple #[.int .i64 (valueF f m.args).1, .int .i64 (valueF f m.args).2]) ∧ ∃ p : Regrown, w'' = grow (redrawn wq p.d) p.os := fun dd os =>
                    have hg := below_regrown wq dd os
                    Calls.regrown_of (value_calls A6' c6' f D d m.args _ ((hcq.out.keep fun x hx => hg.block x (by have : x < w.heap.size := hx; omega)).wide fun x hx => by have : x < w.heap.size := hx; have := hg.size; show x < _; omega) ((haq.keep fun x hx => hg.block x (by have : x < w.heap.size := hx; omega)).wide fun x hx => by have : x < w.heap.size := hx; have := hg.size; show x < _; omega) hfc6)
                  obtain ⟨v, hvv⟩ : ∃ v, worthF f m.args = v := ⟨_, rfl⟩
                  rw [hvv] at hvf hvbd
                  have hvs : (s.args.take (k3 + 1)).map (fun f => worthF f m.args) = (s.args.take k3).map (fun f => worthF f m.args) ++ [v] := by
                    rw [take_of_drop hdf.out, List.map_append, List.map_singleton, hvv]
                  rw [hvf] at hcall
                  simp only at hcall
                  have Hvv := Lib.hid hvv; clear hvv
                  have Hvs := Lib.hid hvs; clear hvs
                  have Haq := Lib.hid haq; clear haq
                  have Hcq := Lib.hid hcq; clear hcq
                  have Hcall := Lib.hid hcall; clear hcall
                  have Hvf := Lib.hid hvf; clear hvf
                  have Hdf := Lib.hid hdf; clear hdf
                  have Tq := Lib.hid Tq; clear Tq
                  as_aux_lemma =>
                  go_upto_region 29 with fail
                  clear f0 f1 m0 m1 rc sc u0 u1
                  refine wp_region_quiet_below (by kernel_rfl) (by kernel_rfl) ?_
                  iterate 23 (go_big_quiet_step (exact (Hcall.out _ _).mono fun e w'' h => h))
                  refine wpQuiet_nil ?_
                  intro _ hw'
                  obtain ⟨⟨dq, osq⟩, hw''⟩ := hw'
                  subst hw''
                  have hbr := below_regrown wq dq osq
                  generalize grow (redrawn wq dq) osq = w5' at hbr ⊢
                  have hz5 := hbr.size
                  have hbp5 : Below wi.heap.size wi w5' := hbq.out.trans (hbr.mono (by omega))
                  have hbm5 := hbm.out.same (hbr.block _ (by omega))
                  have how5 := how.out.later hbr
                  have hln5 : ((s.args.take k3).map fun f => worthF f m.args).length + 1 = k3 + 1 := by rw [List.length_map, List.length_take]; omega
                  have hrm5 : Room ((s.args.take k3).map fun f => worthF f m.args).length := room_of (by rw [List.length_map, List.length_take]; omega)
                  have hba5 : wi.heap.size + 1 ≤ w5'.heap.size := by omega
                  have hlt5 : wi.heap.size < w5'.heap.size := by omega
                  have hne5 : some wi.heap.size ≠ (Value.slice Dv k3 dv).ownBlock := fun he => by have := how.out.lt _ he.symm; omega
                  have hRv : (pI .i64).R (fun _ => False) w5' (Value.int .i64 v).cells.toList v := ⟨rfl, fits_i64 (by omega)⟩
                  have m1 := hbm5.cell 1
                  have Hbr := Lib.hid hbr; clear hbr
                  have Hbp5 := Lib.hid hbp5; clear hbp5
                  have Hbm5 := Lib.hid hbm5; clear hbm5
                  have How5 := Lib.hid how5; clear how5
                  have Hln5 := Lib.hid hln5; clear hln5
                  have Hrm5 := Lib.hid hrm5; clear hrm5
                  have Hne5 := Lib.hid hne5; clear hne5
                  have HRv := Lib.hid hRv; clear hRv
                  clear v0 v1 v2 v3 v4
                  go_wp2_with ((with_reducible show wpList _ _ _ (Oper.mk (some 194) _ _ _ _ _ :: _) _ _); refine wpList_pushG (E := pI .i64) (xs := (s.args.take k3).map fun f => worthF f m.args) (v := .slice Dv k3 dv) (base := wi.heap.size + 1) (G := fun _ => False) 36 3 (.int .i64 0) 8 194 (.tmp 192) (.tmp 193) rfl rfl rfl rfl rfl Tryd.underlying36 (by kernel_rfl) rfl (by decide) (fun _ => rfl) (fun _ => rfl) How5.out (.int .i64 v) rfl v (fun _ => False) HRv.out (fun _ h => h.elim) (k3 + 1) Hln5.out Hrm5.out ⟨by decide, by decide⟩ hba5 ?_; intro A10 c10 w7' hown7 hg7; have hbm7 := Hbm5.out.same (hg7.out.oth _ hlt5 Hne5.out); have x7 := hbm7.cell 1; have f7 := hbm7.free 1; have Hbm7 := Lib.hid hbm7; clear hbm7)
                  go_roundw
                  case rel =>
                    have hz7 := hg7.out.bel.size
                    have hs7 : (w7'.setCell ⟨wi.heap.size, 1, none⟩ (.slice A10 (k3 + 1) c10)).heap.size = w7'.heap.size := by simp [World.setCell]
                    repeat (apply Exists.intro)
                    refine And.intro ?hrel ?hfrm
                    case hfrm =>
                      first
                        | exact rfl
                        | (simp only [show decide (rs.length ≤ j) = false from decide_eq_false (by omega), Bool.or_false]; exact rfl)
                    refine ⟨k3 + 1, A10, c10, hlt3, by go_num, rfl, ?_, by omega, ?_, ?_⟩
                    · exact (Hbp5.out.trans (hg7.out.bel.mono (by omega))).setCell (by show wi.heap.size ≤ wi.heap.size; omega) _
                    · have := Hbm7.out.set 1 (.slice A10 (k3 + 1) c10)
                      unfold Hid
                      simpa using this
                    · unfold Hid
                      rw [Hvs.out]
                      refine hown7.out.keepG (fun x hx hG => Below.heap_setCell _ _ _ _ ?_) (by omega)
                      rcases hG with hG | hG
                      · exact hG.elim
                      · have := hown7.out.lt x hG
                        show x ≠ wi.heap.size
                        omega
                  case measure => simp [intOf]; omega
end Go.Proofs.YtipdppkoodlkcaaDoor
