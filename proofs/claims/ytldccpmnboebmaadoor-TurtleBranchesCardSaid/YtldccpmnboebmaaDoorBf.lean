/-
  TurtleBranches, the walk of the law: it returns true.
-/
import Derived.Test.YtldccpmnboebmaaDoorBb
import Derived.Test.YtldccpmnboebmaaDoorBo
import Derived.Test.YtldccpmnboebmaaDoorAc
import Derived.Test.YtldccpmnboebmaaDoorLh
import Derived.Test.YtldccpmnboebmaaDoorVy
namespace Go.Proofs.YtldccpmnboebmaaDoor
open Go.RowKit Go.Sort
set_option linter.unusedVariables false

theorem own_litB {α : Type} {E : Rp α} {w : World} {e : TypeId} {cells : Array Value} {xs : List α} {G : Nat → Prop} (h : CellsAre E (fun k => G k ∧ k < w.heap.size) w cells.toList xs) (hm : xs.length ≤ maxLen) :
    Own E e w.heap.size G (w.alloc (.cells cells e)) (.slice (some ⟨w.heap.size, 0, none⟩) xs.length xs.length) xs := by
  have hl := h.length
  refine ⟨cells.toList, ⟨hl, .inr ⟨w.heap.size, xs.length, cells, rfl, Nat.le_refl _, heap_alloc_new w _, Nat.le_refl _, hm, by rw [← hl]; simp, ?_⟩⟩, ?_⟩
  · rw [List.take_of_length_le (by omega)]
  · refine (CellsAre.keep (fun k hk => Below.heap_alloc _ _ _ hk.2) h).wide fun k hk => ⟨hk.1, by have := hk.2; simp; omega, fun e => ?_⟩
    cases e
    exact Nat.lt_irrefl _ hk.2
theorem info_modB : (Tryd.prog.info? 44).map (fun i => (i.zero, i.size, i.bytes)) = some (some (.agg #[.int .u8 0, .slice none 0 0]), 2, 32) := by kernel_rfl
theorem bare_R {F : Nat → Prop} {w : World} {n : Int} (h : Fits .u8 n) : pMod.R F w [.int .u8 n, .slice none 0 0] ⟨n, []⟩ := ⟨none, 0, rfl, h, ⟨Nat.le_refl _, Nat.zero_le _, (fun _ => rfl), fun i x hx => by simp at hx⟩⟩
/-! ### lines, each a step deeper -/
def mixD (k : Nat) (ls : List Ln) : List Ln := (ls.take k).map (deepL 1) ++ ls.drop k
theorem mixD_len {k : Nat} {ls : List Ln} : (mixD k ls).length = ls.length := by unfold mixD; simp; omega
theorem mixD_zero (ls : List Ln) : mixD 0 ls = ls := by unfold mixD; simp
theorem mixD_all (ls : List Ln) : mixD ls.length ls = ls.map (deepL 1) := by unfold mixD; simp
theorem mixD_at {k : Nat} {ls : List Ln} {l : Ln} (h : ls[k]? = some l) : (mixD k ls)[k]? = some l := by
  have hk := (List.getElem?_eq_some_iff.1 h).1
  unfold mixD
  rw [List.getElem?_append_right (by simp; omega)]
  simp only [List.length_map, List.length_take, Nat.min_eq_left (Nat.le_of_lt hk), Nat.sub_self, List.getElem?_drop, Nat.add_zero]
  exact h
theorem mixD_set {k : Nat} {ls : List Ln} {l : Ln} (h : ls[k]? = some l) : (mixD k ls).set k (deepL 1 l) = mixD (k + 1) ls := by
  have hk := (List.getElem?_eq_some_iff.1 h).1
  have hd := drop_cons h
  have ht := take_of_drop hd
  unfold mixD
  rw [List.set_append_right _ _ (by simp; omega), hd, ht]
  simp only [List.length_map, List.length_take, Nat.min_eq_left (Nat.le_of_lt hk), Nat.sub_self, List.set_cons_zero, List.map_append, List.map_cons, List.map_nil, List.append_assoc, List.singleton_append]
/-- a line of a slice whose block is known is written a step deeper -/
theorem ln_deepen {w : World} {g : Nat} {ty : TypeId} {cur : Array Value} {c : Nat} {ls : List Ln} {k : Nat} {l : Ln} (hb : Blk w g ty cur) (hs : SlAt pLn (Old w) w (some ⟨g, 0, none⟩) c ls) (hk : ls[k]? = some l) (v : Int) (hv : v = 1 + l.dep) (hf : Fits .i64 v) :
    SlAt pLn (Old (w.setCell ⟨g, k * 7 + 6, none⟩ (.int .i64 v))) (w.setCell ⟨g, k * 7 + 6, none⟩ (.int .i64 v)) (some ⟨g, 0, none⟩) c (ls.set k (deepL 1 l)) ∧ Blk (w.setCell ⟨g, k * 7 + 6, none⟩ (.int .i64 v)) g ty (cur.setIfInBounds (k * 7 + 6) (.int .i64 v)) := by
  have hb2 := hb.set (k * 7 + 6) (.int .i64 v)
  refine ⟨⟨by rw [List.length_set]; exact hs.le, hs.mx, (fun e => by cases e), fun i x hx => ?_⟩, hb2⟩
  have hi : i < ls.length := by have := (List.getElem?_eq_some_iff.1 hx).1; simpa using this
  have hi0 : ls[i]? = some ls[i] := List.getElem?_eq_getElem hi
  obtain ⟨b, o, cs, h1, h2, ⟨rfl, f1, f2, f3⟩, h4⟩ := hs.el i _ hi0
  cases h1
  have hlt : g < (w.setCell ⟨g, k * 7 + 6, none⟩ (.int .i64 v)).heap.size := hb2.lt
  have hn : pLn.n = 7 := rfl
  rw [hn] at h4
  by_cases hik : i = k
  · subst hik
    rw [hi0] at hk
    injection hk with hk
    have hx2 : x = deepL 1 l := by
      rw [List.getElem?_set_self hi] at hx
      exact (Option.some.inj hx).symm
    subst hx2
    rw [hk] at f1 f2 f3 h4
    subst hv
    have h6 := h4 6 _ rfl
    rw [hb.cell] at h6
    have h6s : i * 7 + 6 < cur.size := by
      have := (Array.getElem?_eq_some_iff.1 h6).1
      omega
    refine ⟨g, 0, [.int .i64 l.fr.1, .int .i64 l.fr.2.1, .int .i64 l.fr.2.2, .int .i64 l.to.1, .int .i64 l.to.2.1, .int .i64 l.to.2.2, .int .i64 (1 + l.dep)], rfl, hlt, ⟨rfl, f1, f2, hf⟩, fun j cv hj => ?_⟩
    rw [hb2.cell, hn, Nat.zero_add, Array.getElem?_setIfInBounds]
    by_cases hj6 : j = 6
    · subst hj6
      rw [if_pos rfl, if_pos h6s]
      exact hj
    · rw [if_neg (by omega)]
      have hj7 : j < 7 := by have := (List.getElem?_eq_some_iff.1 hj).1; simpa using this
      have hjj : j = 0 ∨ j = 1 ∨ j = 2 ∨ j = 3 ∨ j = 4 ∨ j = 5 := by omega
      have := h4 j cv (by rcases hjj with rfl | rfl | rfl | rfl | rfl | rfl <;> exact hj)
      rw [hb.cell, Nat.zero_add] at this
      exact this
  · have hx2 : x = ls[i] := by
      rw [List.getElem?_set_ne (fun e => hik e.symm), hi0] at hx
      exact (Option.some.inj hx).symm
    subst hx2
    refine ⟨g, 0, _, rfl, hlt, ⟨rfl, f1, f2, f3⟩, fun j cv hj => ?_⟩
    have hj7 : j < 7 := by have := (List.getElem?_eq_some_iff.1 hj).1; simpa using this
    have := h4 j cv hj
    rw [hb.cell, Nat.zero_add] at this
    rw [hb2.cell, hn, Nat.zero_add, Array.getElem?_setIfInBounds, if_neg (by omega)]
    exact this
theorem own_blk {α : Type} {E : Rp α} {w : World} {e : TypeId} {base : Nat} {G : Nat → Prop} {A : Option Addr} {n c : Nat} {xs : List α} (h : Own E e base G w (.slice A n c) xs) (hn : 0 < xs.length) : ∃ g cur, A = some ⟨g, 0, none⟩ ∧ base ≤ g ∧ Blk w g e cur := by
  obtain ⟨cells, ⟨h1, h2⟩, h3⟩ := h
  rcases h2 with ⟨_, h0⟩ | ⟨g, cap, cur, hv, hb, hg, _⟩
  · omega
  · injection hv with hA _ _
    exact ⟨g, cur, hA, hb, hg⟩
theorem setCell_otherB (w : World) (a : Addr) (v : Value) (q : Nat) (h : q ≠ a.block) : (w.setCell a v).heap[q]? = w.heap[q]? := by
  unfold World.setCell; rw [Array.getElem?_modify, if_neg (Ne.symm h)]
theorem sl_flatkeep {F F' : Nat → Prop} {w w' : World} {A : Option Addr} {c : Nat} {xs : List Ln} (h : SlAt pLn F w A c xs) (hk : ∀ b o, A = some ⟨b, o, none⟩ → 0 < xs.length → w'.heap[b]? = w.heap[b]? ∧ F' b) : SlAt pLn F' w' A c xs :=
  ⟨h.le, h.mx, h.nil, fun i x hx => by
    obtain ⟨b, o, cs, h1, h2, h3, h4⟩ := h.el i x hx
    have hn := (List.getElem?_eq_some_iff.1 hx).1
    obtain ⟨k1, k2⟩ := hk b o h1 (by omega)
    exact ⟨b, o, cs, h1, k2, h3, fun j c hc => by rw [cell_keep k1]; exact h4 j c hc⟩⟩
theorem run_lensB {v : List Mod} {t : Tur} {b : Trop} (hv : checkF v = 0) (ht0 : 0 ≤ t.1.1) (hb0 : 0 ≤ b.1) {x : Trk} {e : Int} (h1 : runT v t b = (x, e)) (hl : v.length ≤ 300) : x.lines.length ≤ 300 := by
  unfold runT at h1
  rw [if_pos hv] at h1
  split at h1
  · split at h1
    · split at h1
      · rename_i s hs
        obtain ⟨c1, c2⟩ := runF_counts (letters_of hv) hs
        have n1 := nF_le v
        injection h1 with h1 _
        subst h1
        simp only [trkOf, c1, beginF, List.length_nil]
        omega
      · injection h1 with h1 _; subst h1; simp [zeroTr]
    · injection h1 with h1 _; subst h1; simp [zeroTr]
  · injection h1 with h1 _; subst h1; simp [zeroTr]
theorem branch_cases {ms : List Mod} {t : Tur} {b : Trop} (hw : checkF ms = 0) (hl : ms.length ≤ 300) (h : FitT t b) (ht0 : 0 ≤ t.1.1) (hb0 : 0 ≤ b.1) {x : Trk} {e : Int} (h1 : runT ms t b = (x, e)) {y : Trk} {f : Int} (h2 : runT ([⟨91, []⟩] ++ ms ++ [⟨93, []⟩]) t b = (y, f)) :
    (e = 16 ∧ f = 16) ∨ (e = 0 ∧ f = 0 ∧ Hid (y = ⟨x.lines.map (deepL 1), x.marks, t.1, t.2⟩)) := by
  obtain ⟨_, j1, j2⟩ := branch_law hw (by omega) h ht0 hb0
  have e1 : ([⟨91, []⟩] ++ ms ++ [⟨93, []⟩] : List Mod) = ⟨91, []⟩ :: (ms ++ [⟨93, []⟩]) := by simp
  rw [e1] at h2
  rw [h1, h2] at j1 j2
  simp only at j1 j2
  by_cases he : e = 0
  · have := Prod.mk.inj (j2 he)
    exact .inr ⟨he, this.2, this.1⟩
  · have h3 := runT_err hw h
    rw [h1] at h3
    have h4 : e = 16 := h3.resolve_left he
    exact .inl ⟨h4, by rw [j1 he]; exact h4⟩

set_option maxRecDepth 100000 in
set_option maxHeartbeats 8000000 in
theorem turtleBranches_walk (A : Option Addr) (c : Nat) (ms : List Mod) (t : Tur) (b : Trop) (w : World) (h : SlAt pMod (Old w) w A c ms) (ht0 : Fits .u8 t.1.1) (htv : FitV t.1.2) (htd : Fits .i64 t.2) (hb0 : 0 ≤ b.1) (hL : LibAt w) : Calls Tryd.prog 4 #[.slice A ms.length c, .agg #[.int .u8 t.1.1, .int .i64 t.1.2.1, .int .i64 t.1.2.2.1, .int .i64 t.1.2.2.2, .int .i64 t.2], .agg #[.int .u8 b.1, .int .i64 b.2]] w (OkPost w) := by
  have q1 := h.lenle
  obtain ⟨W, hW⟩ : ∃ W, W = (w.alloc (.cells #[.int .u8 t.1.1, .int .i64 t.1.2.1, .int .i64 t.1.2.2.1, .int .i64 t.1.2.2.2, .int .i64 t.2] 28)).alloc (.cells #[.int .u8 b.1, .int .i64 b.2] 30) := ⟨_, rfl⟩
  have b0 : Blk W w.heap.size 28 #[.int .u8 t.1.1, .int .i64 t.1.2.1, .int .i64 t.1.2.2.1, .int .i64 t.1.2.2.2, .int .i64 t.2] := by rw [hW]; exact (Blk.new w _ _).alloc _
  have b1 : Blk W (w.heap.size + 1) 30 #[.int .u8 b.1, .int .i64 b.2] := by
    rw [hW]
    have := Blk.new (w.alloc (.cells #[.int .u8 t.1.1, .int .i64 t.1.2.1, .int .i64 t.1.2.2.1, .int .i64 t.1.2.2.2, .int .i64 t.2] 28)) 30 #[.int .u8 b.1, .int .i64 b.2]
    simpa using this
  have t0 : RowKit.Below w.heap.size w W := by rw [hW]; exact al2
  have al := alive_calls W (hL.later t0)
  have B0 := Lib.hid b0; clear b0
  have B1 := Lib.hid b1; clear b1
  have T0 := Lib.hid t0; clear t0
  have H := Lib.hid h; clear h
  have Al := Lib.hid al; clear al
  have HL := Lib.hid hL; clear hL
  go_enter Tryd.func4, Tryd.ntmps4
  go_wp2_with fail
  (try rw [← hW])
  clear hW
  refine Al.out.mono ?_
  rintro e w1 ⟨rfl, d1⟩
  have k0 := B0.out.same (d1.block _ B0.out.lt)
  have k1 := B1.out.same (d1.block _ B1.out.lt)
  have tB := T0.out.trans (d1.mono T0.out.size)
  clear d1
  have y0 := k0.cell 0
  have y1 := k0.cell 1
  have y2 := k0.cell 2
  have y3 := k0.cell 3
  have y4 := k0.cell 4
  have x0 := k1.cell 0
  have x1 := k1.cell 1

  have cf := fit_calls A c ms t b w1 (H.out.later tB)
  obtain ⟨z1, hz1⟩ : ∃ z, fitB ms t b = z := ⟨_, rfl⟩
  rw [hz1] at cf
  have K0 := Lib.hid k0; clear k0
  have K1 := Lib.hid k1; clear k1
  have TB := Lib.hid tB; clear tB
  have Cf := Lib.hid cf; clear cf
  have Hz1 := Lib.hid hz1; clear hz1
  go_wp2_with fail
  refine Cf.out.mono ?_
  rintro e w2 ⟨rfl, d1⟩
  have k0 := K0.out.same (d1.block _ K0.out.lt)
  have k1 := K1.out.same (d1.block _ K1.out.lt)
  have tB := TB.out.trans (d1.mono TB.out.size)
  clear d1 y0 y1 y2 y3 y4 x0 x1
  cases z1
  case false =>
    have TB := Lib.hid tB; clear tB
    go_wp2
    go_ret
    exact ⟨rfl, TB.out⟩
  case true =>
  have y0 := k0.cell 0
  have y1 := k0.cell 1
  have y2 := k0.cell 2
  have y3 := k0.cell 3
  have y4 := k0.cell 4
  have x0 := k1.cell 0
  have x1 := k1.cell 1

  obtain ⟨lv, cv, fv⟩ := fitB_yes Hz1.out
  obtain ⟨⟨x, e1⟩, hx⟩ : ∃ r, runT ms t b = r := ⟨_, rfl⟩
  obtain ⟨⟨y, e2⟩, hy⟩ : ∃ r, runT ([⟨91, []⟩] ++ ms ++ [⟨93, []⟩]) t b = r := ⟨_, rfl⟩
  have law := branch_cases cv lv fv ht0.u8.1 hb0 hx hy
  have len0 := run_lensB cv ht0.u8.1 hb0 hx lv
  have wle := tB.size
  have wlt : w.heap.size < w2.heap.size := k0.lt
  have Hx := Lib.hid hx; clear hx
  have Hy := Lib.hid hy; clear hy
  have Law := Lib.hid law; clear law
  have Cv := Lib.hid cv; clear cv
  have Fv := Lib.hid fv; clear fv
  have Len0 := Lib.hid len0; clear len0
  have Wle := Lib.hid wle; clear wle
  have Wlt := Lib.hid wlt; clear wlt
  have cr := run_owned A c ms t b w2 (H.out.later tB) ht0 hb0
  unfold OwnedPost at cr
  rw [Hx.out] at cr
  simp only at cr
  have K0 := Lib.hid k0; clear k0
  have K1 := Lib.hid k1; clear k1
  have TB := Lib.hid tB; clear tB
  have Cr := Lib.hid cr; clear cr
  go_wp2_with fail
  refine Cr.out.mono ?_
  rintro e w3 ⟨A2, c2, B2, p2, rfl, sl, sm, dd, ow, om, lm⟩
  obtain ⟨w4, hw⟩ : ∃ W, W = w3.alloc (.cells #[.slice A2 x.lines.length c2, .slice B2 x.marks.length p2, .int .u8 x.fr.1, .int .i64 x.fr.2.1, .int .i64 x.fr.2.2.1, .int .i64 x.fr.2.2.2, .int .i64 x.drawn] 36) := ⟨_, rfl⟩
  obtain ⟨g8, hg⟩ : ∃ k, k = w3.heap.size := ⟨_, rfl⟩
  have ng8 : Blk w4 g8 36 #[.slice A2 x.lines.length c2, .slice B2 x.marks.length p2, .int .u8 x.fr.1, .int .i64 x.fr.2.1, .int .i64 x.fr.2.2.1, .int .i64 x.fr.2.2.2, .int .i64 x.drawn] := by rw [hw, hg]; exact Blk.new w3 _ _
  have d2 : RowKit.Below w3.heap.size w3 w4 := by rw [hw]; exact al1
  have d3 := dd.trans (d2.mono dd.size)
  have k0 := K0.out.same (d3.block _ K0.out.lt)
  have k1 := K1.out.same (d3.block _ K1.out.lt)
  have tB := TB.out.trans (d3.mono TB.out.size)
  have slg8 := (sl.wide (F' := Old w3) fun k hk => hk.2).later d2
  have smg8 := (sm.wide (F' := Old w3) fun k hk => hk.2).later d2
  have g8w : w2.heap.size ≤ g8 := by rw [hg]; exact dd.size
  have ow8 := ow.later d2
  have om8 := om.later d2
  have lo8 : ∀ k, (Value.slice A2 x.lines.length c2).ownBlock = some k → k < g8 := fun k hk => by rw [hg]; exact (ow.lt k hk).2
  have mo8 : ∀ k, (Value.slice B2 x.marks.length p2).ownBlock = some k → k < g8 := fun k hk => by rw [hg]; exact (om.lt k hk).2
  clear y0 y1 y2 y3 y4 x0 x1 sl sm dd d2 d3 ow om
  have G8w := Lib.hid g8w; clear g8w
  have Ow8 := Lib.hid ow8; clear ow8
  have Om8 := Lib.hid om8; clear om8
  have Lo8 := Lib.hid lo8; clear lo8
  have Mo8 := Lib.hid mo8; clear mo8
  have Lm := Lib.hid lm; clear lm
  have Ng8 := Lib.hid ng8; clear ng8
  have Slg8 := Lib.hid slg8; clear slg8
  have Smg8 := Lib.hid smg8; clear smg8
  have y0 := k0.cell 0
  have y1 := k0.cell 1
  have y2 := k0.cell 2
  have y3 := k0.cell 3
  have y4 := k0.cell 4
  have x0 := k1.cell 0
  have x1 := k1.cell 1
  have K0 := Lib.hid k0; clear k0
  have K1 := Lib.hid k1; clear k1
  have TB := Lib.hid tB; clear tB

  go_upto_region 5 with fail
  (try rw [← hw, ← hg])
  clear hw hg y0 y1 y2 y3 y4 x0 x1
  have hem : Own pMod 44 w4.heap.size (fun _ => True) (w4.alloc (.cells #[.int .u8 91, .slice none 0 0] 44)) (.slice (some ⟨w4.heap.size, 0, none⟩) 1 1) [(⟨91, []⟩ : Mod)] :=
    own_litB (xs := [(⟨91, []⟩ : Mod)]) (CellsAre.one (bare_R (fits_u8 (n := 91) (by decide)))) (by unfold maxLen; simp)
  have hs1 : SlAt pMod (Old w4) (w4.alloc (.cells #[.int .u8 91, .slice none 0 0] 44)) A c ms := (H.out.later TB.out).below al1
  have hF : ∀ k, Old w4 k → True ∧ k < (w4.alloc (.cells #[.int .u8 91, .slice none 0 0] 44)).heap.size ∧ some k ≠ (Value.slice (some ⟨w4.heap.size, 0, none⟩) 1 1).ownBlock := fun k hk => by
    have h1 : k < w4.heap.size := hk
    exact ⟨trivial, by simp; omega, fun e => by simp [Value.ownBlock] at e; omega⟩
  have hn1 : ([(⟨91, []⟩ : Mod)] ++ ms).length = ms.length + 1 := by simp
  have hr1 : Room (ms.length + 1) := room_of (by omega)
  have hr2 : Room (ms.length + 2) := room_of (by omega)
  have hb4 : w4.heap.size ≤ (w4.alloc (.cells #[.int .u8 91, .slice none 0 0] 44)).heap.size := by simp
  have hn2 : ([(⟨91, []⟩ : Mod)] ++ ms ++ [(⟨93, []⟩ : Mod)]).length = ms.length + 2 := by simp
  have l2 : ∀ (w5 : World) (A' : Option Addr) (c' : Nat), Own pMod 44 w4.heap.size (fun _ => True) w5 (.slice A' (ms.length + 1) c') ([(⟨91, []⟩ : Mod)] ++ ms) → w4.heap.size ≤ w5.heap.size →
      SlAt pMod (fun k => k = w5.heap.size) (w5.alloc (.cells #[.int .u8 93, .slice none 0 0] 44)) (some ⟨w5.heap.size, 0, none⟩) 1 [(⟨93, []⟩ : Mod)] ∧ (∀ k, k = w5.heap.size → True ∧ k < (w5.alloc (.cells #[.int .u8 93, .slice none 0 0] 44)).heap.size ∧ some k ≠ (Value.slice A' (ms.length + 1) c').ownBlock) ∧ w4.heap.size ≤ (w5.alloc (.cells #[.int .u8 93, .slice none 0 0] 44)).heap.size := fun w5 A' c' ho hb => by
    refine ⟨sl_lit (F := fun k => k = w5.heap.size) (Blk.new w5 44 #[.int .u8 93, .slice none 0 0]) (CellsAre.one (bare_R (fits_u8 (n := 93) (by decide)))) rfl (by unfold maxLen; simp) rfl, fun k hk => ⟨trivial, by subst hk; simp, fun e => ?_⟩, by simp; omega⟩
    have := (ho.lt k e.symm).2
    omega
  have l3 : ∀ (w5 w6 : World) (v v' v2 v3 : Value), Grew w4.heap.size (w4.alloc (.cells #[.int .u8 91, .slice none 0 0] 44)) w5 v v' → Grew w4.heap.size (w5.alloc (.cells #[.int .u8 93, .slice none 0 0] 44)) w6 v2 v3 → RowKit.Below w4.heap.size w4 w6 ∧ Blk w6 w.heap.size 28 #[.int .u8 t.1.1, .int .i64 t.1.2.1, .int .i64 t.1.2.2.1, .int .i64 t.1.2.2.2, .int .i64 t.2] ∧ Blk w6 (w.heap.size + 1) 30 #[.int .u8 b.1, .int .i64 b.2] := fun w5 w6 v v' v2 v3 g1 g2 => by
    have d1 : RowKit.Below w4.heap.size w4 w5 := al1.trans g1.bel
    have d2 : RowKit.Below w4.heap.size w4 w6 := (d1.alloc d1.size _).trans g2.bel
    exact ⟨d2, K0.out.same (d2.block _ K0.out.lt), K1.out.same (d2.block _ K1.out.lt)⟩
  have Hem := Lib.hid hem; clear hem
  have Hs1 := Lib.hid hs1; clear hs1
  have HF := Lib.hid hF; clear hF
  have Hn1 := Lib.hid hn1; clear hn1
  have Hn2 := Lib.hid hn2; clear hn2
  have Hr1 := Lib.hid hr1; clear hr1
  have Hr2 := Lib.hid hr2; clear hr2
  have Hb4 := Lib.hid hb4; clear hb4
  have L2 := Lib.hid l2; clear l2
  have L3 := Lib.hid l3; clear l3
  go_wp2_with (first
    | (at_builtin; refine wpList_catG (E := pMod) (xs := [(⟨91, []⟩ : Mod)]) (base := w4.heap.size) (G := fun _ => True) 22 44 (.agg #[.int .u8 0, .slice none 0 0]) 32 (.tmp 33) (.tmp 34) rfl rfl Tryd.underlying22 info_modB rfl (by decide) rfl Hem.out A c ms rfl (Old w4) Hs1.out HF.out (ms.length + 1) Hn1.out Hr1.out (by decide) Hb4.out ?_; intro A5 c5 w5 hown5 hgr5; have hle5 := Nat.le_trans Hb4.out hgr5.out.bel.size)
    | (at_builtin; refine wpList_catG (E := pMod) (xs := [(⟨91, []⟩ : Mod)] ++ ms) (base := w4.heap.size) (G := fun _ => True) 22 44 (.agg #[.int .u8 0, .slice none 0 0]) 32 (.tmp 35) (.tmp 37) rfl rfl Tryd.underlying22 info_modB rfl (by decide) rfl (hown5.out.alloc _) (some ⟨w5.heap.size, 0, none⟩) 1 [(⟨93, []⟩ : Mod)] rfl (fun k => k = w5.heap.size) (L2.out w5 A5 c5 hown5.out hle5).1 (L2.out w5 A5 c5 hown5.out hle5).2.1 (ms.length + 2) Hn2.out Hr2.out (by decide) (L2.out w5 A5 c5 hown5.out hle5).2.2 ?_; intro A6 c6 w6 hown6 hgr6; obtain ⟨bel6, k0, k1⟩ := L3.out _ _ _ _ _ _ hgr5.out hgr6.out; have y0 := k0.cell 0; have y1 := k0.cell 1; have y2 := k0.cell 2; have y3 := k0.cell 3; have y4 := k0.cell 4; have x0 := k1.cell 0; have x1 := k1.cell 1))
  have tB := TB.out.trans (bel6.mono TB.out.size)
  have slg8 := Slg8.out.later bel6
  have smg8 := Smg8.out.later bel6
  have ow8 := Ow8.out.later bel6
  have om8 := Om8.out.later bel6
  have ng8 := Ng8.out.same (bel6.block _ Ng8.out.lt)
  have s6 := hown6.out.sl'.2.wide (F' := Old w6) fun k hk => hk.2
  have cr := run_fresh A6 c6 ([(⟨91, []⟩ : Mod)] ++ ms ++ [(⟨93, []⟩ : Mod)]) t b w6 s6 ht0 hb0
  unfold FreshPost at cr
  rw [Hy.out, Hn2.out] at cr
  simp only at cr
  clear bel6 s6 hle5 hown5 hgr5 hown6 hgr6
  have K0 := Lib.hid k0; clear k0
  have K1 := Lib.hid k1; clear k1
  have TB := Lib.hid tB; clear tB
  have Cr := Lib.hid cr; clear cr
  have Slg8 := Lib.hid slg8; clear slg8
  have Smg8 := Lib.hid smg8; clear smg8
  have Ow8 := Lib.hid ow8; clear ow8
  have Om8 := Lib.hid om8; clear om8
  have Ng8 := Lib.hid ng8; clear ng8
  refine Cr.out.mono ?_
  rintro e w7 ⟨A7, c7, B7, p7, rfl, sl, sm, dd⟩
  obtain ⟨w8, hw⟩ : ∃ W, W = w7.alloc (.cells #[.slice A7 y.lines.length c7, .slice B7 y.marks.length p7, .int .u8 y.fr.1, .int .i64 y.fr.2.1, .int .i64 y.fr.2.2.1, .int .i64 y.fr.2.2.2, .int .i64 y.drawn] 36) := ⟨_, rfl⟩
  obtain ⟨g11, hg⟩ : ∃ k, k = w7.heap.size := ⟨_, rfl⟩
  have n11 : Blk w8 g11 36 #[.slice A7 y.lines.length c7, .slice B7 y.marks.length p7, .int .u8 y.fr.1, .int .i64 y.fr.2.1, .int .i64 y.fr.2.2.1, .int .i64 y.fr.2.2.2, .int .i64 y.drawn] := by rw [hw, hg]; exact Blk.new w7 _ _
  have d2 : RowKit.Below w7.heap.size w7 w8 := by rw [hw]; exact al1
  have d3 := dd.trans (d2.mono dd.size)
  have k0 := K0.out.same (d3.block _ K0.out.lt)
  have tB := TB.out.trans (d3.mono TB.out.size)
  have sly := sl.keep (w' := w8) fun k hk => d2.block k hk.2
  have smy := sm.keep (w' := w8) fun k hk => d2.block k hk.2
  have slg8 := Slg8.out.later d3
  have smg8 := Smg8.out.later d3
  have ow8 := Ow8.out.later d3
  have om8 := Om8.out.later d3
  have hne : g8 < g11 := by rw [hg]; exact Nat.lt_of_lt_of_le Ng8.out.lt dd.size
  have g6 : w6.heap.size ≤ g11 := by rw [hg]; exact dd.size
  have l86 : g8 < w6.heap.size := Ng8.out.lt
  have z78 : w7.heap.size ≤ w8.heap.size := d2.size
  have ng8 := Ng8.out.same (d3.block _ Ng8.out.lt)
  clear y0 y1 y2 y3 y4 x0 x1 sl sm dd d2 d3
  have N11 := Lib.hid n11; clear n11
  have Sly := Lib.hid sly; clear sly
  have Smy := Lib.hid smy; clear smy
  have Slg8 := Lib.hid slg8; clear slg8
  have Smg8 := Lib.hid smg8; clear smg8
  have Ow8 := Lib.hid ow8; clear ow8
  have Om8 := Lib.hid om8; clear om8
  have Ng8 := Lib.hid ng8; clear ng8
  have K0 := Lib.hid k0; clear k0
  have TB := Lib.hid tB; clear tB
  have Hne := Lib.hid hne; clear hne
  have G6 := Lib.hid g6; clear g6
  have L86 := Lib.hid l86; clear l86
  have Z78 := Lib.hid z78; clear z78
  go_upto_region 7 with fail
  (try rw [← hw, ← hg])
  clear hw hg
  rcases Law.out with ⟨rfl, rfl⟩ | ⟨rfl, rfl, hyx⟩
  · go_wp2
    go_ret
    exact ⟨rfl, TB.out⟩
  have hl0 : x.lines.length ≤ 300 := Len0.out
  have hyl : y.lines = x.lines.map (deepL 1) := by rw [hyx.out]
  have hym : y.marks = x.marks := by rw [hyx.out]
  have hyf : y.fr = t.1 := by rw [hyx.out]
  have hyd : y.drawn = t.2 := by rw [hyx.out]
  have st : (0 < x.lines.length → ∃ g cur, A2 = some ⟨g, 0, none⟩ ∧ Blk w8 g 46 cur) := fun hn => by
    obtain ⟨g, cur, h1, _, h2⟩ := own_blk Ow8.out hn
    exact ⟨g, cur, h1, h2⟩
  have sl0 : SlAt pLn (Old w8) w8 A2 c2 (mixD 0 x.lines) := by rw [mixD_zero]; exact Slg8.out
  have q8 := Slg8.out.lenle
  have Hyl := Lib.hid hyl; clear hyl
  have Hym := Lib.hid hym; clear hym
  have Hyf := Lib.hid hyf; clear hyf
  have Hyd := Lib.hid hyd; clear hyd
  have Hyx := Lib.hid hyx; clear hyx
  have St := Lib.hid st; clear st
  have Sl0 := Lib.hid sl0; clear sl0
  go_wp2
  go_loopw [13] (fun i wr => ∃ k : Nat, k ≤ x.lines.length ∧ i = .int .i64 k ∧ Hid (RowKit.Below w.heap.size w wr) ∧ Hid (wr.heap.size = w8.heap.size ∧ ∀ b, (Value.slice A2 x.lines.length c2).ownBlock ≠ some b → wr.heap[b]? = w8.heap[b]?) ∧ Hid (SlAt pLn (Old wr) wr A2 c2 (mixD k x.lines)) ∧ Hid (0 < x.lines.length → ∃ g cur, A2 = some ⟨g, 0, none⟩ ∧ Blk wr g 46 cur)) (fun i _ => x.lines.length - (intOf i).toNat)
  case atStart => exact ⟨0, Nat.zero_le _, rfl, TB.out, ⟨rfl, fun _ _ => rfl⟩, Sl0.out, St.out⟩
  case round =>
    obtain ⟨k, hk, rfl, hbw, hoth, hsl, hst⟩ := hrel
    obtain ⟨wo, rfl⟩ : ∃ wo : World, wo = wr := ⟨_, rfl⟩
    have n8 : Blk wo g8 36 #[.slice A2 x.lines.length c2, .slice B2 x.marks.length p2, .int .u8 x.fr.1, .int .i64 x.fr.2.1, .int .i64 x.fr.2.2.1, .int .i64 x.fr.2.2.2, .int .i64 x.drawn] := Ng8.out.same (hoth.out.2 g8 fun e => by have := Lo8.out g8 e; omega)
    have a0 := n8.cell 0
    by_cases hlt : k < x.lines.length
    case pos =>
      obtain ⟨g, cur, hA, hbk⟩ := hst.out (by omega)
      have hml : k < (mixD k x.lines).length := by rw [mixD_len]; exact hlt
      have hx0 : x.lines[k]? = some x.lines[k] := List.getElem?_eq_getElem hlt
      obtain ⟨l, hl⟩ : ∃ l, x.lines[k] = l := ⟨_, rfl⟩
      rw [hl] at hx0
      have hmx := mixD_at hx0
      obtain ⟨b9, o9, m9, hdy, e9, _, _, _, _, _, _, _, _, _, _, z9⟩ := Sly.out.getLn (i := k) (by rw [Hyl.out, List.length_map]; exact hlt)
      have hm9 : m9 = deepL 1 l := by
        have h5 := get_of_drop hdy.out
        rw [Hyl.out, List.getElem?_map, hx0] at h5
        exact (Option.some.inj h5).symm
      have hfd : Fits .i64 (1 + l.dep) := by rw [hm9] at z9; exact z9
      obtain ⟨b, o, l', hdx, eA, hob, c0, c1, c2', c3, c4, c5, c6', z1, z2, z3⟩ := hsl.out.getLn hml
      have hll : l' = l := by
        have h5 := get_of_drop hdx.out
        rw [hmx] at h5
        exact (Option.some.inj h5).symm
      subst hll
      rw [hA] at eA
      injection eA with eA
      injection eA with eb eo _
      subst eb eo
      have hdb := hfd.i64
      have hd2 := z3.i64
      have iw : IntKind.i64.wrap (l'.dep + 1) = l'.dep + 1 := IntWalk.i64_in _ (by omega)
      have cell6 : wo.cell? ⟨g, k * 7 + 6, none⟩ = some (.int .i64 l'.dep) := by simpa using c6'
      have free6 := hbk.free (k * 7 + 6)
      obtain ⟨s1, s2⟩ := ln_deepen hbk (by rw [← hA]; exact hsl.out) hmx (l'.dep + 1) (by omega) (by rw [show l'.dep + 1 = 1 + l'.dep from by omega]; exact hfd)
      have hg9 : (Value.slice A2 x.lines.length c2).ownBlock = some g := by rw [hA]; rfl
      have hgw : w.heap.size ≤ g := (Ow8.out.lt g hg9).1 |> fun h => Nat.le_trans Wle.out h
      have nb : RowKit.Below w.heap.size w (wo.setCell ⟨g, k * 7 + 6, none⟩ (.int .i64 (l'.dep + 1))) := hbw.out.setCell hgw _
      have no : (wo.setCell ⟨g, k * 7 + 6, none⟩ (.int .i64 (l'.dep + 1))).heap.size = w8.heap.size ∧ ∀ b, (Value.slice A2 x.lines.length c2).ownBlock ≠ some b → (wo.setCell ⟨g, k * 7 + 6, none⟩ (.int .i64 (l'.dep + 1))).heap[b]? = w8.heap[b]? :=
        ⟨by rw [← hoth.out.1]; simp, fun b hb => (setCell_otherB wo ⟨g, k * 7 + 6, none⟩ _ b (fun e => hb (by rw [hg9, e]))).trans (hoth.out.2 b hb)⟩
      rw [mixD_set hx0, ← hA] at s1
      have ns : 0 < x.lines.length → ∃ g' cur', A2 = some ⟨g', 0, none⟩ ∧ Blk (wo.setCell ⟨g, k * 7 + 6, none⟩ (.int .i64 (l'.dep + 1))) g' 46 cur' := fun _ => ⟨g, _, hA, s2⟩
      have hk1 : k + 1 ≤ x.lines.length := hlt
      subst hA
      clear c0 c1 c2' c3 c4 c5 c6' z1 z2 z3 z9 hdx hdy hm9 hob hfd hbk s2 hml hmx hx0 hl e9 hsl hst hbw hoth hg9
      have S1 := Lib.hid s1; clear s1
      have Nb := Lib.hid nb; clear nb
      have No := Lib.hid no; clear no
      have Ns := Lib.hid ns; clear ns
      have N8 := Lib.hid n8; clear n8
      go_wp2
      go_roundw
      case rel => exact ⟨k + 1, hk1, by go_num, Nb, No, S1, Ns⟩
      case measure => simp [intOf]; omega
    case neg =>
      have hkl : k = x.lines.length := by omega
      subst hkl
      have k0 : Blk wo w.heap.size 28 #[.int .u8 t.1.1, .int .i64 t.1.2.1, .int .i64 t.1.2.2.1, .int .i64 t.1.2.2.2, .int .i64 t.2] := (K0.out.same (hoth.out.2 _ fun e => by have := (Ow8.out.lt _ e).1; have := Wlt.out; omega))
      have y0 := k0.cell 0
      have y1 := k0.cell 1
      have y2 := k0.cell 2
      have y3 := k0.cell 3
      have y4 := k0.cell 4
      obtain ⟨wz, hwz⟩ : ∃ W, W = wo.setRow g8 #[.slice A2 x.lines.length c2, .slice B2 x.marks.length p2, .int .u8 t.1.1, .int .i64 t.1.2.1, .int .i64 t.1.2.2.1, .int .i64 t.1.2.2.2, .int .i64 t.2] := ⟨_, rfl⟩
      have m8 : Blk wz g8 36 #[.slice A2 x.lines.length c2, .slice B2 x.marks.length p2, .int .u8 t.1.1, .int .i64 t.1.2.1, .int .i64 t.1.2.2.1, .int .i64 t.1.2.2.2, .int .i64 t.2] := by rw [hwz]; exact blk_row n8
      have hgw : w.heap.size ≤ g8 := by have := Wle.out; have := G8w.out; omega
      have tB : RowKit.Below w.heap.size w wz := by rw [hwz]; exact row_below hbw.out hgw _
      have zs : wz.heap.size = w8.heap.size := by rw [hwz]; simpa using hoth.out.1
      have zo : ∀ b, b ≠ g8 → wz.heap[b]? = wo.heap[b]? := fun b hb => by rw [hwz]; exact setRow_other wo g8 b _ hb
      have n11 := N11.out.same ((zo g11 (by have := Hne.out; omega)).trans (hoth.out.2 g11 fun e => by have := Lo8.out _ e; have := Hne.out; omega))
      have hmix := hsl.out
      rw [mixD_all, ← Hyl.out] at hmix
      have hlen : y.lines.length = x.lines.length := by rw [Hyl.out, List.length_map]
      have sx : SlAt pLn (Old wz) wz A2 c2 y.lines := sl_flatkeep hmix fun b o e hn => by
        obtain ⟨g, cur, hA, hbk⟩ := hst.out (by rw [← hlen]; exact hn)
        rw [hA] at e
        injection e with e
        injection e with e _ _
        subst e
        have hlt := Lo8.out g (by rw [hA]; rfl)
        exact ⟨zo g (by omega), by show g < wz.heap.size; rw [zs, ← hoth.out.1]; exact hbk.lt⟩
      have mx : SlAt pMk (Old wz) wz B2 p2 y.marks := by
        have h5 : Own pMk 65 w2.heap.size (fun _ => False) wz (.slice B2 x.marks.length p2) x.marks := Om8.out.keepG (fun k _ hh => by
          rcases hh with hh | hh
          · exact hh.elim
          · exact (zo k (by have := Mo8.out k hh; omega)).trans (hoth.out.2 k fun e => Lm.out k e hh)) (by omega)
        rw [Hym.out]
        exact h5.sl'.2.wide fun k hk => hk.2
      have sy : SlAt pLn (Old wz) wz A7 c7 y.lines := (Sly.out.keep (w' := wz) fun k hk => (zo k (by have := L86.out; omega)).trans (hoth.out.2 k fun e => by have := Lo8.out k e; have := L86.out; omega)).wide fun k hk => by show k < wz.heap.size; rw [zs]; have := Z78.out; omega
      have my : SlAt pMk (Old wz) wz B7 p7 y.marks := (Smy.out.keep (w' := wz) fun k hk => (zo k (by have := L86.out; omega)).trans (hoth.out.2 k fun e => by have := Lo8.out k e; have := L86.out; omega)).wide fun k hk => by show k < wz.heap.size; rw [zs]; have := Z78.out; omega
      have cs := rTSame_calls A2 c2 B2 p2 y A7 c7 B7 p7 y wz sx mx sy my
      rw [decide_eq_true rfl] at cs
      have erow : (#[.slice A2 x.lines.length c2, .slice B2 x.marks.length p2, .int .u8 t.1.1, .int .i64 t.1.2.1, .int .i64 t.1.2.2.1, .int .i64 t.1.2.2.2, .int .i64 t.2] : Array Value) = #[.slice A2 y.lines.length c2, .slice B2 y.marks.length p2, .int .u8 y.fr.1, .int .i64 y.fr.2.1, .int .i64 y.fr.2.2.1, .int .i64 y.fr.2.2.2, .int .i64 y.drawn] := by rw [Hyl.out, Hym.out, Hyf.out, Hyd.out, List.length_map]
      have m8' := m8
      rw [erow] at m8'
      have hn8 := n8
      clear hbw hoth hsl hst hmix sx mx sy my hlen zs zo m8 n8
      have TB := Lib.hid tB; clear tB
      have N11 := Lib.hid n11; clear n11
      have Cs := Lib.hid cs; clear cs
      have K0 := Lib.hid k0; clear k0
      have Erow := Lib.hid erow; clear erow
      have M8' := Lib.hid m8'; clear m8'
      have Hn8 := Lib.hid hn8; clear hn8
      go_upto_region 14 with ((with_reducible show wpList _ _ _ (Oper.mk none _ _ _ _ _ :: _) _ _); refine wpList_storeAtG 28 (.tmp 71) (.tmp 70) 2 _ #[.int .u8 t.1.1, .int .i64 t.1.2.1, .int .i64 t.1.2.2.1, .int .i64 t.1.2.2.2, .int .i64 t.2] #[.slice A2 x.lines.length c2, .slice B2 x.marks.length p2, .int .u8 t.1.1, .int .i64 t.1.2.1, .int .i64 t.1.2.2.1, .int .i64 t.1.2.2.2, .int .i64 t.2] rfl rfl rfl rfl Hn8.out (by kernel_rfl) (by simp) (by simp [Value.oneCell']) rfl rfl ?_)
      rw [← hwz]
      clear hwz y0 y1 y2 y3 y4 a0
      have a0 := M8'.out.cell 0
      have a1 := M8'.out.cell 1
      have a2 := M8'.out.cell 2
      have a3 := M8'.out.cell 3
      have a4 := M8'.out.cell 4
      have a5 := M8'.out.cell 5
      have a6 := M8'.out.cell 6
      have b0 := N11.out.cell 0
      have b1 := N11.out.cell 1
      have b2 := N11.out.cell 2
      have b3 := N11.out.cell 3
      have b4 := N11.out.cell 4
      have b5 := N11.out.cell 5
      have b6 := N11.out.cell 6
      go_wp2_with fail
      refine Cs.out.mono ?_
      rintro e w10 ⟨rfl, d7⟩
      have tB := TB.out.trans (d7.mono TB.out.size)
      clear a0 a1 a2 a3 a4 a5 a6 b0 b1 b2 b3 b4 b5 b6 d7
      have TB := Lib.hid tB; clear tB
      go_wp2
      go_ret
      exact ⟨rfl, TB.out⟩
end Go.Proofs.YtldccpmnboebmaaDoor
