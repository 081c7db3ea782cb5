/-
  TurtleNames, the walk of the law: it returns true.
-/
import Derived.Test.YtldccpmnboebmaaDoorBb
import Derived.Test.YtldccpmnboebmaaDoorAc
import Derived.Test.YtldccpmnboebmaaDoorVw
import Derived.Test.YtldccpmnboebmaaDoorVt
import Derived.Test.YtldccpmnboebmaaDoorVy
namespace Go.Proofs.YtldccpmnboebmaaDoor
open Go.RowKit Go.Sort
set_option linter.unusedVariables false

theorem bare_RN {F : Nat → Prop} {w : World} {n : Int} (h : Fits .u8 n) : pMod.R F w [.int .u8 n, .slice none 0 0] ⟨n, []⟩ := ⟨none, 0, rfl, h, ⟨Nat.le_refl _, Nat.zero_le _, (fun _ => rfl), fun i x hx => by simp at hx⟩⟩
theorem bareN {w : World} {g : Nat} {t : TypeId} {n : Int} (h : Blk w g t #[.int .u8 n, .slice none 0 0]) (hn : Fits .u8 n) : SlAt pMod (Old w) w (some ⟨g, 0, none⟩) 1 [⟨n, []⟩] := sl_lit h (CellsAre.one (bare_RN hn)) h.lt (by unfold maxLen; simp) rfl
theorem bare3N {w : World} {g : Nat} {t : TypeId} {a b c : Int} (h : Blk w g t #[.int .u8 a, .slice none 0 0, .int .u8 b, .slice none 0 0, .int .u8 c, .slice none 0 0]) (ha : Fits .u8 a) (hb : Fits .u8 b) (hc : Fits .u8 c) : SlAt pMod (Old w) w (some ⟨g, 0, none⟩) 3 [⟨a, []⟩, ⟨b, []⟩, ⟨c, []⟩] := by
  have hc : CellsAre pMod (Old w) w (#[.int .u8 a, .slice none 0 0, .int .u8 b, .slice none 0 0, .int .u8 c, .slice none 0 0] : Array Value).toList [⟨a, []⟩, ⟨b, []⟩, ⟨c, []⟩] := ⟨[.int .u8 a, .slice none 0 0], [.int .u8 b, .slice none 0 0, .int .u8 c, .slice none 0 0], rfl, bare_RN ha, [.int .u8 b, .slice none 0 0], [.int .u8 c, .slice none 0 0], rfl, bare_RN hb, [.int .u8 c, .slice none 0 0], [], rfl, bare_RN hc, rfl⟩
  exact sl_lit h hc h.lt (by unfold maxLen; simp) rfl
theorem stepN_sl {w : World} {j k : Nat} {t1 t2 : TypeId} {n : Int} (h1 : Blk w j t1 #[.int .u8 70, .slice (some ⟨k, 0, none⟩) 1 1]) (h2 : Blk w k t2 #[.int .i64 n]) (hn : Fits .i64 n) : SlAt pMod (Old w) w (some ⟨j, 0, none⟩) 1 [(⟨70, [n]⟩ : Mod)] := by
  have hi : SlAt (pI .i64) (Old w) w (some ⟨k, 0, none⟩) 1 [n] := sl_lit h2 (CellsAre.one (E := pI .i64) (x := n) ⟨rfl, hn⟩) h2.lt (by unfold maxLen; simp) rfl
  exact sl_lit h1 (CellsAre.one (E := pMod) (x := (⟨70, [n]⟩ : Mod)) ⟨some ⟨k, 0, none⟩, 1, rfl, fits_u8 (n := 70) (by decide), hi⟩) h1.lt (by unfold maxLen; simp) rfl
def RunP (a : World) (u : Trk) (e : Int) (en : Ending) (w' : World) : Prop := ∃ A c B q, en = .returned (.tuple #[.agg #[.slice A u.lines.length c, .slice B u.marks.length q, .int .u8 u.fr.1, .int .i64 u.fr.2.1, .int .i64 u.fr.2.2.1, .int .i64 u.fr.2.2.2, .int .i64 u.drawn], .int .i64 e]) ∧ SlAt pLn (Old w') w' A c u.lines ∧ SlAt pMk (Old w') w' B q u.marks ∧ RowKit.Below a.heap.size a w'
theorem run_to {a w : World} {A : Option Addr} {c : Nat} {ms : List Mod} {t : Tur} {b : Trop} {u : Trk} {e : Int} (h : SlAt pMod (Old w) w A c ms) (ht0 : Fits .u8 t.1.1) (hb0 : 0 ≤ b.1) (hr : runT ms t b = (u, e)) (hb : RowKit.Below a.heap.size a w) :
    Calls Tryd.prog 11 #[.slice A ms.length c, .agg #[.int .u8 t.1.1, .int .i64 t.1.2.1, .int .i64 t.1.2.2.1, .int .i64 t.1.2.2.2, .int .i64 t.2], .agg #[.int .u8 b.1, .int .i64 b.2]] w (RunP a u e) := by
  have key := run_calls A c ms t b w h ht0 hb0
  rw [hr] at key
  refine key.mono ?_
  rintro en w' ⟨A', c', B', q', h1, h2, h3, h4⟩
  exact ⟨A', c', B', q', h1, h2, h3, hb.trans (h4.mono hb.size)⟩
theorem place_to {a w : World} {A : Option Addr} {c : Nat} {B : Option Addr} {q : Nat} {t : Trk} {f : Fr} {u : Trk} {e : Int} (hl : SlAt pLn (Old w) w A c t.lines) (hm : SlAt pMk (Old w) w B q t.marks) (ht0 : Fits .u8 t.fr.1) (hf0 : 0 ≤ f.1) (hr : placeT t f = (u, e)) (hb : RowKit.Below a.heap.size a w) :
    Calls Tryd.prog 19 #[.agg #[.slice A t.lines.length c, .slice B t.marks.length q, .int .u8 t.fr.1, .int .i64 t.fr.2.1, .int .i64 t.fr.2.2.1, .int .i64 t.fr.2.2.2, .int .i64 t.drawn], .agg #[.int .u8 f.1, .int .i64 f.2.1, .int .i64 f.2.2.1, .int .i64 f.2.2.2]] w (RunP a u e) := by
  have key := place_calls A c B q t f w hl hm ht0 hf0
  rw [hr] at key
  refine key.mono ?_
  rintro en w' ⟨A', c', B', q', h1, h2, h3, h4⟩
  exact ⟨A', c', B', q', h1, h2, h3, hb.trans (h4.mono hb.size)⟩
def tN : Trk := ⟨[⟨(1000000, 0, 0), (999997, 0, 0), 0⟩], [], (0, (999997, 0, 0)), 1⟩
def xN : Trk := ⟨[], [⟨65, 0, (0, 0, 0)⟩, ⟨98, 9, (0, 0, 0)⟩], (9, (0, 0, 0)), 0⟩
def mF : List Mod := [⟨70, []⟩]
theorem runN3 : (runT [⟨91, []⟩] zeroTu (0, 0)).2 = 28 := by decide +kernel
theorem runN4 : (runT [⟨70, []⟩] ((0, (0, 0, 0)), -1) (0, 0)).2 = 8 := by decide +kernel
theorem runN5 : (runT [⟨70, []⟩] zeroTu (6, 0)).2 = 2 := by decide +kernel
theorem runN6 : (runT [⟨70, []⟩] ((0, (1000000, 0, 0)), 0) (0, 0)).2 = 16 := by decide +kernel
theorem runN7 : (runT [⟨70, []⟩] ((0, (0, 0, 0)), 1000000) (0, 0)).2 = 16 := by decide +kernel
theorem runN8 : runT [⟨70, [-3]⟩] ((0, (1000000, 0, 0)), 0) (0, 0) = (tN, 0) := by decide +kernel
theorem runN13 : runT [⟨65, []⟩, ⟨43, []⟩, ⟨98, []⟩] zeroTu (0, 0) = (xN, 0) := by decide +kernel
theorem lenN9 : lengthT ⟨[⟨(0, 0, 0), (1, 1, 0), 0⟩], [], (0, (0, 0, 0)), 0⟩ = (0, 8) := by decide +kernel
theorem hullN10 : (hullT zeroT).2 = 6 := by decide +kernel
theorem placeN11 : (placeT tN (0, (1, 0, 0))).2 = 16 := by decide +kernel
theorem placeN12 : (placeT zeroT (24, (0, 0, 0))).2 = 8 := by decide +kernel
theorem pair2 {α : Type} {r : α × Int} {e : Int} (h : r.2 = e) : ∃ u, r = (u, e) := ⟨r.1, by rw [← h]⟩

theorem drewN1_run : parseF [43, 70] = ([⟨43, []⟩, ⟨70, []⟩], 0) ∧ (runT [⟨43, []⟩, ⟨70, []⟩] zeroTu (0, 0)).2 = 0 ∧ (runT [⟨43, []⟩, ⟨70, []⟩] zeroTu (0, 0)).1.lines = [⟨(0, 0, 0), (0, 1, 0), 0⟩] := by decide +kernel
theorem drewN1 {a W : World} (hL : LibAt a) (h : RowKit.Below a.heap.size a W) : Calls Tryd.prog 22 #[.string ⟨#[43, 70]⟩, .agg #[.int .u8 0, .int .i64 0], .slice (some ⟨W.heap.size, 0, none⟩) 1 1] (W.alloc (.cells #[.int .i64 0, .int .i64 0, .int .i64 0, .int .i64 0, .int .i64 1, .int .i64 0, .int .i64 0] 46)) (fun e W' => e = .returned (.bool true) ∧ RowKit.Below a.heap.size a W') := by
  obtain ⟨h1, h2, h3⟩ := drewN1_run
  obtain ⟨⟨u, z⟩, hu⟩ : ∃ r, runT [⟨43, []⟩, ⟨70, []⟩] zeroTu (0, 0) = r := ⟨_, rfl⟩
  rw [hu] at h2 h3
  simp only at h2 h3
  subst h2
  have hs := ln_lit (w := W) [⟨(0, 0, 0), (0, 1, 0), 0⟩] (cells := #[.int .i64 0, .int .i64 0, .int .i64 0, .int .i64 0, .int .i64 1, .int .i64 0, .int .i64 0]) rfl (by decide) (by decide) (n := 1) rfl
  have key := drew_calls ⟨#[43, 70]⟩ (0, 0) [⟨43, []⟩, ⟨70, []⟩] u (some ⟨W.heap.size, 0, none⟩) 1 (W.alloc (.cells #[.int .i64 0, .int .i64 0, .int .i64 0, .int .i64 0, .int .i64 1, .int .i64 0, .int .i64 0] 46)) (hL.later (bel_al h)) (by decide) (by decide) h1 hu
  rw [h3] at key
  exact (key hs).mono fun e W' hh => ⟨hh.1, bel_in (bel_al h) hh.2⟩
theorem drewN2_run : parseF [45, 70] = ([⟨45, []⟩, ⟨70, []⟩], 0) ∧ (runT [⟨45, []⟩, ⟨70, []⟩] zeroTu (0, 0)).2 = 0 ∧ (runT [⟨45, []⟩, ⟨70, []⟩] zeroTu (0, 0)).1.lines = [⟨(0, 0, 0), (0, (-1), 0), 0⟩] := by decide +kernel
theorem drewN2 {a W : World} (hL : LibAt a) (h : RowKit.Below a.heap.size a W) : Calls Tryd.prog 22 #[.string ⟨#[45, 70]⟩, .agg #[.int .u8 0, .int .i64 0], .slice (some ⟨W.heap.size, 0, none⟩) 1 1] (W.alloc (.cells #[.int .i64 0, .int .i64 0, .int .i64 0, .int .i64 0, .int .i64 (-1), .int .i64 0, .int .i64 0] 46)) (fun e W' => e = .returned (.bool true) ∧ RowKit.Below a.heap.size a W') := by
  obtain ⟨h1, h2, h3⟩ := drewN2_run
  obtain ⟨⟨u, z⟩, hu⟩ : ∃ r, runT [⟨45, []⟩, ⟨70, []⟩] zeroTu (0, 0) = r := ⟨_, rfl⟩
  rw [hu] at h2 h3
  simp only at h2 h3
  subst h2
  have hs := ln_lit (w := W) [⟨(0, 0, 0), (0, (-1), 0), 0⟩] (cells := #[.int .i64 0, .int .i64 0, .int .i64 0, .int .i64 0, .int .i64 (-1), .int .i64 0, .int .i64 0]) rfl (by decide) (by decide) (n := 1) rfl
  have key := drew_calls ⟨#[45, 70]⟩ (0, 0) [⟨45, []⟩, ⟨70, []⟩] u (some ⟨W.heap.size, 0, none⟩) 1 (W.alloc (.cells #[.int .i64 0, .int .i64 0, .int .i64 0, .int .i64 0, .int .i64 (-1), .int .i64 0, .int .i64 0] 46)) (hL.later (bel_al h)) (by decide) (by decide) h1 hu
  rw [h3] at key
  exact (key hs).mono fun e W' hh => ⟨hh.1, bel_in (bel_al h) hh.2⟩
theorem drewN3_run : parseF [94, 70] = ([⟨94, []⟩, ⟨70, []⟩], 0) ∧ (runT [⟨94, []⟩, ⟨70, []⟩] zeroTu (0, 0)).2 = 0 ∧ (runT [⟨94, []⟩, ⟨70, []⟩] zeroTu (0, 0)).1.lines = [⟨(0, 0, 0), (0, 0, 1), 0⟩] := by decide +kernel
theorem drewN3 {a W : World} (hL : LibAt a) (h : RowKit.Below a.heap.size a W) : Calls Tryd.prog 22 #[.string ⟨#[94, 70]⟩, .agg #[.int .u8 0, .int .i64 0], .slice (some ⟨W.heap.size, 0, none⟩) 1 1] (W.alloc (.cells #[.int .i64 0, .int .i64 0, .int .i64 0, .int .i64 0, .int .i64 0, .int .i64 1, .int .i64 0] 46)) (fun e W' => e = .returned (.bool true) ∧ RowKit.Below a.heap.size a W') := by
  obtain ⟨h1, h2, h3⟩ := drewN3_run
  obtain ⟨⟨u, z⟩, hu⟩ : ∃ r, runT [⟨94, []⟩, ⟨70, []⟩] zeroTu (0, 0) = r := ⟨_, rfl⟩
  rw [hu] at h2 h3
  simp only at h2 h3
  subst h2
  have hs := ln_lit (w := W) [⟨(0, 0, 0), (0, 0, 1), 0⟩] (cells := #[.int .i64 0, .int .i64 0, .int .i64 0, .int .i64 0, .int .i64 0, .int .i64 1, .int .i64 0]) rfl (by decide) (by decide) (n := 1) rfl
  have key := drew_calls ⟨#[94, 70]⟩ (0, 0) [⟨94, []⟩, ⟨70, []⟩] u (some ⟨W.heap.size, 0, none⟩) 1 (W.alloc (.cells #[.int .i64 0, .int .i64 0, .int .i64 0, .int .i64 0, .int .i64 0, .int .i64 1, .int .i64 0] 46)) (hL.later (bel_al h)) (by decide) (by decide) h1 hu
  rw [h3] at key
  exact (key hs).mono fun e W' hh => ⟨hh.1, bel_in (bel_al h) hh.2⟩
theorem drewN4_run : parseF [38, 70] = ([⟨38, []⟩, ⟨70, []⟩], 0) ∧ (runT [⟨38, []⟩, ⟨70, []⟩] zeroTu (0, 0)).2 = 0 ∧ (runT [⟨38, []⟩, ⟨70, []⟩] zeroTu (0, 0)).1.lines = [⟨(0, 0, 0), (0, 0, (-1)), 0⟩] := by decide +kernel
theorem drewN4 {a W : World} (hL : LibAt a) (h : RowKit.Below a.heap.size a W) : Calls Tryd.prog 22 #[.string ⟨#[38, 70]⟩, .agg #[.int .u8 0, .int .i64 0], .slice (some ⟨W.heap.size, 0, none⟩) 1 1] (W.alloc (.cells #[.int .i64 0, .int .i64 0, .int .i64 0, .int .i64 0, .int .i64 0, .int .i64 (-1), .int .i64 0] 46)) (fun e W' => e = .returned (.bool true) ∧ RowKit.Below a.heap.size a W') := by
  obtain ⟨h1, h2, h3⟩ := drewN4_run
  obtain ⟨⟨u, z⟩, hu⟩ : ∃ r, runT [⟨38, []⟩, ⟨70, []⟩] zeroTu (0, 0) = r := ⟨_, rfl⟩
  rw [hu] at h2 h3
  simp only at h2 h3
  subst h2
  have hs := ln_lit (w := W) [⟨(0, 0, 0), (0, 0, (-1)), 0⟩] (cells := #[.int .i64 0, .int .i64 0, .int .i64 0, .int .i64 0, .int .i64 0, .int .i64 (-1), .int .i64 0]) rfl (by decide) (by decide) (n := 1) rfl
  have key := drew_calls ⟨#[38, 70]⟩ (0, 0) [⟨38, []⟩, ⟨70, []⟩] u (some ⟨W.heap.size, 0, none⟩) 1 (W.alloc (.cells #[.int .i64 0, .int .i64 0, .int .i64 0, .int .i64 0, .int .i64 0, .int .i64 (-1), .int .i64 0] 46)) (hL.later (bel_al h)) (by decide) (by decide) h1 hu
  rw [h3] at key
  exact (key hs).mono fun e W' hh => ⟨hh.1, bel_in (bel_al h) hh.2⟩
theorem drewN5_run : parseF [124, 70] = ([⟨124, []⟩, ⟨70, []⟩], 0) ∧ (runT [⟨124, []⟩, ⟨70, []⟩] zeroTu (0, 0)).2 = 0 ∧ (runT [⟨124, []⟩, ⟨70, []⟩] zeroTu (0, 0)).1.lines = [⟨(0, 0, 0), ((-1), 0, 0), 0⟩] := by decide +kernel
theorem drewN5 {a W : World} (hL : LibAt a) (h : RowKit.Below a.heap.size a W) : Calls Tryd.prog 22 #[.string ⟨#[124, 70]⟩, .agg #[.int .u8 0, .int .i64 0], .slice (some ⟨W.heap.size, 0, none⟩) 1 1] (W.alloc (.cells #[.int .i64 0, .int .i64 0, .int .i64 0, .int .i64 (-1), .int .i64 0, .int .i64 0, .int .i64 0] 46)) (fun e W' => e = .returned (.bool true) ∧ RowKit.Below a.heap.size a W') := by
  obtain ⟨h1, h2, h3⟩ := drewN5_run
  obtain ⟨⟨u, z⟩, hu⟩ : ∃ r, runT [⟨124, []⟩, ⟨70, []⟩] zeroTu (0, 0) = r := ⟨_, rfl⟩
  rw [hu] at h2 h3
  simp only at h2 h3
  subst h2
  have hs := ln_lit (w := W) [⟨(0, 0, 0), ((-1), 0, 0), 0⟩] (cells := #[.int .i64 0, .int .i64 0, .int .i64 0, .int .i64 (-1), .int .i64 0, .int .i64 0, .int .i64 0]) rfl (by decide) (by decide) (n := 1) rfl
  have key := drew_calls ⟨#[124, 70]⟩ (0, 0) [⟨124, []⟩, ⟨70, []⟩] u (some ⟨W.heap.size, 0, none⟩) 1 (W.alloc (.cells #[.int .i64 0, .int .i64 0, .int .i64 0, .int .i64 (-1), .int .i64 0, .int .i64 0, .int .i64 0] 46)) (hL.later (bel_al h)) (by decide) (by decide) h1 hu
  rw [h3] at key
  exact (key hs).mono fun e W' hh => ⟨hh.1, bel_in (bel_al h) hh.2⟩
theorem drewN6_run : parseF [33, 43, 70] = ([⟨33, []⟩, ⟨43, []⟩, ⟨70, []⟩], 0) ∧ (runT [⟨33, []⟩, ⟨43, []⟩, ⟨70, []⟩] zeroTu (0, 0)).2 = 0 ∧ (runT [⟨33, []⟩, ⟨43, []⟩, ⟨70, []⟩] zeroTu (0, 0)).1.lines = [⟨(0, 0, 0), (0, 0, 1), 0⟩] := by decide +kernel
theorem drewN6 {a W : World} (hL : LibAt a) (h : RowKit.Below a.heap.size a W) : Calls Tryd.prog 22 #[.string ⟨#[33, 43, 70]⟩, .agg #[.int .u8 0, .int .i64 0], .slice (some ⟨W.heap.size, 0, none⟩) 1 1] (W.alloc (.cells #[.int .i64 0, .int .i64 0, .int .i64 0, .int .i64 0, .int .i64 0, .int .i64 1, .int .i64 0] 46)) (fun e W' => e = .returned (.bool true) ∧ RowKit.Below a.heap.size a W') := by
  obtain ⟨h1, h2, h3⟩ := drewN6_run
  obtain ⟨⟨u, z⟩, hu⟩ : ∃ r, runT [⟨33, []⟩, ⟨43, []⟩, ⟨70, []⟩] zeroTu (0, 0) = r := ⟨_, rfl⟩
  rw [hu] at h2 h3
  simp only at h2 h3
  subst h2
  have hs := ln_lit (w := W) [⟨(0, 0, 0), (0, 0, 1), 0⟩] (cells := #[.int .i64 0, .int .i64 0, .int .i64 0, .int .i64 0, .int .i64 0, .int .i64 1, .int .i64 0]) rfl (by decide) (by decide) (n := 1) rfl
  have key := drew_calls ⟨#[33, 43, 70]⟩ (0, 0) [⟨33, []⟩, ⟨43, []⟩, ⟨70, []⟩] u (some ⟨W.heap.size, 0, none⟩) 1 (W.alloc (.cells #[.int .i64 0, .int .i64 0, .int .i64 0, .int .i64 0, .int .i64 0, .int .i64 1, .int .i64 0] 46)) (hL.later (bel_al h)) (by decide) (by decide) h1 hu
  rw [h3] at key
  exact (key hs).mono fun e W' hh => ⟨hh.1, bel_in (bel_al h) hh.2⟩
theorem drewN7_run : parseF [43, 40, 45, 53, 41, 70, 40, 48, 41] = ([⟨43, [-5]⟩, ⟨70, [0]⟩], 0) ∧ (runT [⟨43, [-5]⟩, ⟨70, [0]⟩] zeroTu (0, 0)).2 = 0 ∧ (runT [⟨43, [-5]⟩, ⟨70, [0]⟩] zeroTu (0, 0)).1.lines = [⟨(0, 0, 0), (0, 0, 0), 0⟩] := by decide +kernel
theorem drewN7 {a W : World} (hL : LibAt a) (h : RowKit.Below a.heap.size a W) : Calls Tryd.prog 22 #[.string ⟨#[43, 40, 45, 53, 41, 70, 40, 48, 41]⟩, .agg #[.int .u8 0, .int .i64 0], .slice (some ⟨W.heap.size, 0, none⟩) 1 1] (W.alloc (.cells #[.int .i64 0, .int .i64 0, .int .i64 0, .int .i64 0, .int .i64 0, .int .i64 0, .int .i64 0] 46)) (fun e W' => e = .returned (.bool true) ∧ RowKit.Below a.heap.size a W') := by
  obtain ⟨h1, h2, h3⟩ := drewN7_run
  obtain ⟨⟨u, z⟩, hu⟩ : ∃ r, runT [⟨43, [-5]⟩, ⟨70, [0]⟩] zeroTu (0, 0) = r := ⟨_, rfl⟩
  rw [hu] at h2 h3
  simp only at h2 h3
  subst h2
  have hs := ln_lit (w := W) [⟨(0, 0, 0), (0, 0, 0), 0⟩] (cells := #[.int .i64 0, .int .i64 0, .int .i64 0, .int .i64 0, .int .i64 0, .int .i64 0, .int .i64 0]) rfl (by decide) (by decide) (n := 1) rfl
  have key := drew_calls ⟨#[43, 40, 45, 53, 41, 70, 40, 48, 41]⟩ (0, 0) [⟨43, [-5]⟩, ⟨70, [0]⟩] u (some ⟨W.heap.size, 0, none⟩) 1 (W.alloc (.cells #[.int .i64 0, .int .i64 0, .int .i64 0, .int .i64 0, .int .i64 0, .int .i64 0, .int .i64 0] 46)) (hL.later (bel_al h)) (by decide) (by decide) h1 hu
  rw [h3] at key
  exact (key hs).mono fun e W' hh => ⟨hh.1, bel_in (bel_al h) hh.2⟩
set_option maxRecDepth 100000 in
set_option maxHeartbeats 16000000 in
theorem turtleNames_walk (w : World) (hL : LibAt w) : Calls Tryd.prog 8 #[] w (OkPost w) := by
  obtain ⟨W, hW⟩ : ∃ W, W = (w.alloc (.cells #[.int .u8 70, .slice none 0 0] 44)).alloc (.cells #[.int .u8 0, .int .i64 1000000, .int .i64 0, .int .i64 0, .int .i64 0] 28) := ⟨_, rfl⟩
  have s0 : Blk W w.heap.size 44 #[.int .u8 70, .slice none 0 0] := by rw [hW]; exact (Blk.new w _ _).alloc _
  have f0 : Blk W (w.heap.size + 1) 28 #[.int .u8 0, .int .i64 1000000, .int .i64 0, .int .i64 0, .int .i64 0] := by
    rw [hW]
    have := Blk.new (w.alloc (.cells #[.int .u8 70, .slice none 0 0] 44)) 28 #[.int .u8 0, .int .i64 1000000, .int .i64 0, .int .i64 0, .int .i64 0]
    simpa using this
  have t0 : RowKit.Below w.heap.size w W := by rw [hW]; exact al2
  have b0 : RowKit.Below W.heap.size W W := RowKit.Below.refl _ _
  have sl0 : SlAt pMod (Old W) W (some ⟨w.heap.size, 0, none⟩) 1 [⟨70, []⟩] := bareN s0 (fits_u8 (by decide))
  have u0 : Fits .u8 0 := fits_u8 (by decide)
  have S0 := Lib.hid s0; clear s0
  have F0 := Lib.hid f0; clear f0
  have T0 := Lib.hid t0; clear t0
  have B0 := Lib.hid b0; clear b0
  have Sl0 := Lib.hid sl0; clear sl0
  have HL := Lib.hid hL; clear hL
  have U0 := Lib.hid u0; clear u0
  go_enter Tryd.func8, Tryd.ntmps8
  go_upto_region 3 with fail
  (try rw [← hW])
  clear hW
  obtain ⟨u3, hu3⟩ := pair2 runN3
  obtain ⟨u4, hu4⟩ := pair2 runN4
  obtain ⟨u5, hu5⟩ := pair2 runN5
  obtain ⟨u6, hu6⟩ := pair2 runN6
  obtain ⟨u7, hu7⟩ := pair2 runN7
  obtain ⟨u8, hu8⟩ : ∃ u, u = tN := ⟨_, rfl⟩
  obtain ⟨u11, hu11⟩ := pair2 placeN11
  obtain ⟨u12, hu12⟩ := pair2 placeN12
  obtain ⟨u13, hu13⟩ : ∃ u, u = xN := ⟨_, rfl⟩
  have r8 : runT [⟨70, [-3]⟩] ((0, (1000000, 0, 0)), 0) (0, 0) = (u8, 0) := by rw [hu8]; exact runN8
  have r13 : runT [⟨65, []⟩, ⟨43, []⟩, ⟨98, []⟩] zeroTu (0, 0) = (u13, 0) := by rw [hu13]; exact runN13
  have Hu3 := Lib.hid hu3; clear hu3
  have Hu4 := Lib.hid hu4; clear hu4
  have Hu5 := Lib.hid hu5; clear hu5
  have Hu6 := Lib.hid hu6; clear hu6
  have Hu7 := Lib.hid hu7; clear hu7
  have Hu8 := Lib.hid hu8; clear hu8
  have Hu11 := Lib.hid hu11; clear hu11
  have Hu12 := Lib.hid hu12; clear hu12
  have Hu13 := Lib.hid hu13; clear hu13
  have R8 := Lib.hid r8; clear r8
  have R13 := Lib.hid r13; clear r13
  have key3 : Calls Tryd.prog 11 #[.slice (some ⟨W.heap.size, 0, none⟩) 1 1, .agg #[.int .u8 0, .int .i64 0, .int .i64 0, .int .i64 0, .int .i64 0], .agg #[.int .u8 0, .int .i64 0]] (W.alloc (.cells #[.int .u8 91, .slice none 0 0] 44)) (RunP W u3 28) := run_to (ms := [⟨91, []⟩]) (t := zeroTu) (b := (0, 0)) (bareN (Blk.new W _ _) (fits_u8 (by decide))) U0.out (by decide) Hu3.out (bel_al B0.out)
  have Key3 := Lib.hid key3; clear key3
  go_wp2_with fail
  refine Key3.out.mono ?_
  rintro e v1 ⟨A3, c3, D3, q3, rfl, sl, sm, dd⟩
  obtain ⟨w1, hw⟩ : ∃ W, W = v1.alloc (.cells #[.slice A3 u3.lines.length c3, .slice D3 u3.marks.length q3, .int .u8 u3.fr.1, .int .i64 u3.fr.2.1, .int .i64 u3.fr.2.2.1, .int .i64 u3.fr.2.2.2, .int .i64 u3.drawn] 36) := ⟨_, rfl⟩
  obtain ⟨g3, hg⟩ : ∃ k, k = v1.heap.size := ⟨_, rfl⟩
  have d2 : RowKit.Below v1.heap.size v1 w1 := by rw [hw]; exact al1
  have b1 : RowKit.Below W.heap.size W w1 := dd.trans (d2.mono dd.size)
  clear sl sm dd d2
  have B1 := Lib.hid b1; clear b1
  go_upto_region 4 with fail
  (try rw [← hw, ← hg])
  clear hw hg
  have key4 : Calls Tryd.prog 11 #[.slice (some ⟨w.heap.size, 0, none⟩) 1 1, .agg #[.int .u8 0, .int .i64 0, .int .i64 0, .int .i64 0, .int .i64 (-1)], .agg #[.int .u8 0, .int .i64 0]] (w1) (RunP W u4 8) := run_to (ms := [⟨70, []⟩]) (t := ((0, (0, 0, 0)), -1)) (b := (0, 0)) (Sl0.out.later B1.out) U0.out (by decide) Hu4.out B1.out
  have Key4 := Lib.hid key4; clear key4
  go_wp2_with fail
  refine Key4.out.mono ?_
  rintro e v2 ⟨A4, c4, D4, q4, rfl, sl, sm, dd⟩
  obtain ⟨w2, hw⟩ : ∃ W, W = v2.alloc (.cells #[.slice A4 u4.lines.length c4, .slice D4 u4.marks.length q4, .int .u8 u4.fr.1, .int .i64 u4.fr.2.1, .int .i64 u4.fr.2.2.1, .int .i64 u4.fr.2.2.2, .int .i64 u4.drawn] 36) := ⟨_, rfl⟩
  obtain ⟨g4, hg⟩ : ∃ k, k = v2.heap.size := ⟨_, rfl⟩
  have d2 : RowKit.Below v2.heap.size v2 w2 := by rw [hw]; exact al1
  have b2 : RowKit.Below W.heap.size W w2 := dd.trans (d2.mono dd.size)
  clear sl sm dd d2
  have B2 := Lib.hid b2; clear b2
  go_upto_region 5 with fail
  (try rw [← hw, ← hg])
  clear hw hg
  have key5 : Calls Tryd.prog 11 #[.slice (some ⟨w.heap.size, 0, none⟩) 1 1, .agg #[.int .u8 0, .int .i64 0, .int .i64 0, .int .i64 0, .int .i64 0], .agg #[.int .u8 6, .int .i64 0]] (w2) (RunP W u5 2) := run_to (ms := [⟨70, []⟩]) (t := zeroTu) (b := (6, 0)) (Sl0.out.later B2.out) U0.out (by decide) Hu5.out B2.out
  have Key5 := Lib.hid key5; clear key5
  go_wp2_with fail
  refine Key5.out.mono ?_
  rintro e v3 ⟨A5, c5, D5, q5, rfl, sl, sm, dd⟩
  obtain ⟨w3, hw⟩ : ∃ W, W = v3.alloc (.cells #[.slice A5 u5.lines.length c5, .slice D5 u5.marks.length q5, .int .u8 u5.fr.1, .int .i64 u5.fr.2.1, .int .i64 u5.fr.2.2.1, .int .i64 u5.fr.2.2.2, .int .i64 u5.drawn] 36) := ⟨_, rfl⟩
  obtain ⟨g5, hg⟩ : ∃ k, k = v3.heap.size := ⟨_, rfl⟩
  have d2 : RowKit.Below v3.heap.size v3 w3 := by rw [hw]; exact al1
  have b3 : RowKit.Below W.heap.size W w3 := dd.trans (d2.mono dd.size)
  clear sl sm dd d2
  have B3 := Lib.hid b3; clear b3
  go_upto_region 6 with fail
  (try rw [← hw, ← hg])
  clear hw hg
  have y0 := (F0.out.same (B3.out.block _ F0.out.lt)).cell 0
  have y1 := (F0.out.same (B3.out.block _ F0.out.lt)).cell 1
  have y2 := (F0.out.same (B3.out.block _ F0.out.lt)).cell 2
  have y3 := (F0.out.same (B3.out.block _ F0.out.lt)).cell 3
  have y4 := (F0.out.same (B3.out.block _ F0.out.lt)).cell 4
  have key6 : Calls Tryd.prog 11 #[.slice (some ⟨w.heap.size, 0, none⟩) 1 1, .agg #[.int .u8 0, .int .i64 1000000, .int .i64 0, .int .i64 0, .int .i64 0], .agg #[.int .u8 0, .int .i64 0]] (w3) (RunP W u6 16) := run_to (ms := [⟨70, []⟩]) (t := ((0, (1000000, 0, 0)), 0)) (b := (0, 0)) (Sl0.out.later B3.out) U0.out (by decide) Hu6.out B3.out
  have Key6 := Lib.hid key6; clear key6
  go_wp2_with fail
  refine Key6.out.mono ?_
  rintro e v4 ⟨A6, c6, D6, q6, rfl, sl, sm, dd⟩
  obtain ⟨w4, hw⟩ : ∃ W, W = v4.alloc (.cells #[.slice A6 u6.lines.length c6, .slice D6 u6.marks.length q6, .int .u8 u6.fr.1, .int .i64 u6.fr.2.1, .int .i64 u6.fr.2.2.1, .int .i64 u6.fr.2.2.2, .int .i64 u6.drawn] 36) := ⟨_, rfl⟩
  obtain ⟨g6, hg⟩ : ∃ k, k = v4.heap.size := ⟨_, rfl⟩
  have d2 : RowKit.Below v4.heap.size v4 w4 := by rw [hw]; exact al1
  have b4 : RowKit.Below W.heap.size W w4 := dd.trans (d2.mono dd.size)
  clear sl sm dd d2 y0 y1 y2 y3 y4
  have B4 := Lib.hid b4; clear b4
  go_upto_region 7 with fail
  (try rw [← hw, ← hg])
  clear hw hg
  have key7 : Calls Tryd.prog 11 #[.slice (some ⟨w.heap.size, 0, none⟩) 1 1, .agg #[.int .u8 0, .int .i64 0, .int .i64 0, .int .i64 0, .int .i64 1000000], .agg #[.int .u8 0, .int .i64 0]] (w4) (RunP W u7 16) := run_to (ms := [⟨70, []⟩]) (t := ((0, (0, 0, 0)), 1000000)) (b := (0, 0)) (Sl0.out.later B4.out) U0.out (by decide) Hu7.out B4.out
  have Key7 := Lib.hid key7; clear key7
  go_wp2_with fail
  refine Key7.out.mono ?_
  rintro e v5 ⟨A7, c7, D7, q7, rfl, sl, sm, dd⟩
  obtain ⟨w5, hw⟩ : ∃ W, W = v5.alloc (.cells #[.slice A7 u7.lines.length c7, .slice D7 u7.marks.length q7, .int .u8 u7.fr.1, .int .i64 u7.fr.2.1, .int .i64 u7.fr.2.2.1, .int .i64 u7.fr.2.2.2, .int .i64 u7.drawn] 36) := ⟨_, rfl⟩
  obtain ⟨g7, hg⟩ : ∃ k, k = v5.heap.size := ⟨_, rfl⟩
  have d2 : RowKit.Below v5.heap.size v5 w5 := by rw [hw]; exact al1
  have b5 : RowKit.Below W.heap.size W w5 := dd.trans (d2.mono dd.size)
  clear sl sm dd d2
  have B5 := Lib.hid b5; clear b5
  go_upto_region 8 with fail
  (try rw [← hw, ← hg])
  clear hw hg
  have h8a : Blk ((w5.alloc (.cells #[.int .i64 (-3)] 3)).alloc (.cells #[.int .u8 70, .slice (some ⟨w5.heap.size, 0, none⟩) 1 1] 44)) w5.heap.size 3 #[.int .i64 (-3)] := (Blk.new w5 _ _).alloc _
  have h8b : Blk ((w5.alloc (.cells #[.int .i64 (-3)] 3)).alloc (.cells #[.int .u8 70, .slice (some ⟨w5.heap.size, 0, none⟩) 1 1] 44)) (w5.heap.size + 1) 44 #[.int .u8 70, .slice (some ⟨w5.heap.size, 0, none⟩) 1 1] := by
    have := Blk.new (w5.alloc (.cells #[.int .i64 (-3)] 3)) 44 #[.int .u8 70, .slice (some ⟨w5.heap.size, 0, none⟩) 1 1]
    simpa using this
  have h8c := stepN_sl h8b h8a (fits_i64 (n := -3) (by decide))
  have h8d := bel_al (o := .cells #[.int .u8 70, .slice (some ⟨w5.heap.size, 0, none⟩) 1 1] 44) (bel_al (o := .cells #[.int .i64 (-3)] 3) B5.out)
  have z0 := (F0.out.same (h8d.block _ F0.out.lt)).cell 0
  have z1 := (F0.out.same (h8d.block _ F0.out.lt)).cell 1
  have z2 := (F0.out.same (h8d.block _ F0.out.lt)).cell 2
  have z3 := (F0.out.same (h8d.block _ F0.out.lt)).cell 3
  have z4 := (F0.out.same (h8d.block _ F0.out.lt)).cell 4
  clear h8a h8b
  have H8c := Lib.hid h8c; clear h8c
  have H8d := Lib.hid h8d; clear h8d
  have key8 : Calls Tryd.prog 11 #[.slice (some ⟨w5.heap.size + 1, 0, none⟩) 1 1, .agg #[.int .u8 0, .int .i64 1000000, .int .i64 0, .int .i64 0, .int .i64 0], .agg #[.int .u8 0, .int .i64 0]] ((w5.alloc (.cells #[.int .i64 (-3)] 3)).alloc (.cells #[.int .u8 70, .slice (some ⟨w5.heap.size, 0, none⟩) 1 1] 44)) (RunP W u8 0) := run_to (ms := [⟨70, [-3]⟩]) (t := ((0, (1000000, 0, 0)), 0)) (b := (0, 0)) H8c.out U0.out (by decide) R8.out H8d.out
  have Key8 := Lib.hid key8; clear key8
  go_wp2_with fail
  refine Key8.out.mono ?_
  rintro e v6 ⟨A8, c8, D8, q8, rfl, sl, sm, dd⟩
  obtain ⟨w6, hw⟩ : ∃ W, W = v6.alloc (.cells #[.slice A8 u8.lines.length c8, .slice D8 u8.marks.length q8, .int .u8 u8.fr.1, .int .i64 u8.fr.2.1, .int .i64 u8.fr.2.2.1, .int .i64 u8.fr.2.2.2, .int .i64 u8.drawn] 36) := ⟨_, rfl⟩
  obtain ⟨g8, hg⟩ : ∃ k, k = v6.heap.size := ⟨_, rfl⟩
  have d2 : RowKit.Below v6.heap.size v6 w6 := by rw [hw]; exact al1
  have b6 : RowKit.Below W.heap.size W w6 := dd.trans (d2.mono dd.size)
  have m8 : Blk w6 g8 36 #[.slice A8 u8.lines.length c8, .slice D8 u8.marks.length q8, .int .u8 u8.fr.1, .int .i64 u8.fr.2.1, .int .i64 u8.fr.2.2.1, .int .i64 u8.fr.2.2.2, .int .i64 u8.drawn] := by rw [hw, hg]; exact Blk.new v6 _ _
  have sl8 := sl.later d2
  have sm8 := sm.later d2
  clear sl sm dd d2
  have B6 := Lib.hid b6; clear b6
  have M8 := Lib.hid m8; clear m8
  have Sl8 := Lib.hid sl8; clear sl8
  have Sm8 := Lib.hid sm8; clear sm8
  go_upto_region 9 with fail
  (try rw [← hw, ← hg])
  clear hw hg
  clear z0 z1 z2 z3 z4
  have bt : RowKit.Below w6.heap.size w6 w6 := RowKit.Below.refl _ _
  have Bt := Lib.hid bt; clear bt
  go_wp2_with fail
  refine (lineG (a := w6) Bt.out).mono ?_
  rintro e w7 ⟨rfl, b7⟩
  have s9 := ln_lit (w := w7) [⟨(0, 0, 0), (1, 1, 0), 0⟩] (cells := #[.int .i64 0, .int .i64 0, .int .i64 0, .int .i64 1, .int .i64 1, .int .i64 0, .int .i64 0]) rfl (by decide) (by decide) (n := 1) rfl
  have m9 : SlAt pMk (Old (w7.alloc (.cells #[.int .i64 0, .int .i64 0, .int .i64 0, .int .i64 1, .int .i64 1, .int .i64 0, .int .i64 0] 46))) (w7.alloc (.cells #[.int .i64 0, .int .i64 0, .int .i64 0, .int .i64 1, .int .i64 1, .int .i64 0, .int .i64 0] 46)) none 0 [] := ⟨Nat.le_refl _, Nat.zero_le _, (fun _ => rfl), fun i x hx => by simp at hx⟩
  have key9 : Calls Tryd.prog 16 #[.agg #[.slice (some ⟨w7.heap.size, 0, none⟩) 1 1, .slice none 0 0, .int .u8 0, .int .i64 0, .int .i64 0, .int .i64 0, .int .i64 0]] (w7.alloc (.cells #[.int .i64 0, .int .i64 0, .int .i64 0, .int .i64 1, .int .i64 1, .int .i64 0, .int .i64 0] 46)) (IntErr (0, 8) (w7.alloc (.cells #[.int .i64 0, .int .i64 0, .int .i64 0, .int .i64 1, .int .i64 1, .int .i64 0, .int .i64 0] 46))) := by
    have := length_calls (some ⟨w7.heap.size, 0, none⟩) 1 none 0 ⟨[⟨(0, 0, 0), (1, 1, 0), 0⟩], [], (0, (0, 0, 0)), 0⟩ (w7.alloc (.cells #[.int .i64 0, .int .i64 0, .int .i64 0, .int .i64 1, .int .i64 1, .int .i64 0, .int .i64 0] 46)) s9 m9
    rw [lenN9] at this
    exact this
  clear s9 m9
  have b9a := bel_al (o := .cells #[.int .i64 0, .int .i64 0, .int .i64 0, .int .i64 1, .int .i64 1, .int .i64 0, .int .i64 0] 46) b7
  clear b7
  have Key9 := Lib.hid key9; clear key9
  have B9a := Lib.hid b9a; clear b9a
  go_wp2_with fail
  refine Key9.out.mono ?_
  rintro e w8 ⟨rfl, d1⟩
  have b8 := B9a.out.trans (d1.mono B9a.out.size)
  clear d1
  have B8 := Lib.hid b8; clear b8
  go_upto_region 10 with fail
  have key10 : ∃ lo hi : V3, Calls Tryd.prog 21 #[.agg #[.slice none 0 0, .slice none 0 0, .int .u8 0, .int .i64 0, .int .i64 0, .int .i64 0, .int .i64 0]] w8 (HullErr ((lo, hi), 6) w8) := by
    have := hull_calls none 0 none 0 zeroT w8 ⟨Nat.le_refl _, Nat.zero_le _, (fun _ => rfl), fun i x hx => by simp [zeroT] at hx⟩ ⟨Nat.le_refl _, Nat.zero_le _, (fun _ => rfl), fun i x hx => by simp [zeroT] at hx⟩
    obtain ⟨⟨lo, hi⟩, hh⟩ := pair2 hullN10
    rw [hh] at this
    exact ⟨lo, hi, this⟩
  obtain ⟨lo, hi, key10⟩ := key10
  have Key10 := Lib.hid key10; clear key10
  go_wp2_with fail
  refine Key10.out.mono ?_
  rintro e v9 ⟨rfl, d1⟩
  obtain ⟨w9, hw⟩ : ∃ W, W = (v9.alloc (.cells #[.int .i64 lo.1, .int .i64 lo.2.1, .int .i64 lo.2.2] 24)).alloc (.cells #[.int .i64 hi.1, .int .i64 hi.2.1, .int .i64 hi.2.2] 24) := ⟨_, rfl⟩
  have b9 : RowKit.Below w6.heap.size w6 w9 := by rw [hw]; exact bel_al (bel_al (B8.out.trans (d1.mono B8.out.size)))
  clear d1
  have B9 := Lib.hid b9; clear b9
  go_upto_region 11 with fail
  (try rw [← hw])
  clear hw
  have z0 := (M8.out.same (B9.out.block _ M8.out.lt)).cell 0
  have z1 := (M8.out.same (B9.out.block _ M8.out.lt)).cell 1
  have z2 := (M8.out.same (B9.out.block _ M8.out.lt)).cell 2
  have z3 := (M8.out.same (B9.out.block _ M8.out.lt)).cell 3
  have z4 := (M8.out.same (B9.out.block _ M8.out.lt)).cell 4
  have z5 := (M8.out.same (B9.out.block _ M8.out.lt)).cell 5
  have z6 := (M8.out.same (B9.out.block _ M8.out.lt)).cell 6
  have key11 : Calls Tryd.prog 19 #[.agg #[.slice A8 u8.lines.length c8, .slice D8 u8.marks.length q8, .int .u8 u8.fr.1, .int .i64 u8.fr.2.1, .int .i64 u8.fr.2.2.1, .int .i64 u8.fr.2.2.2, .int .i64 u8.drawn], .agg #[.int .u8 0, .int .i64 1, .int .i64 0, .int .i64 0]] w9 (RunP w6 u11 16) := place_to (f := (0, (1, 0, 0))) (Sl8.out.later B9.out) (Sm8.out.later B9.out) (by rw [Hu8.out]; exact U0.out) (by decide) (by rw [Hu8.out]; exact Hu11.out) B9.out
  have Key11 := Lib.hid key11; clear key11
  go_wp2_with fail
  refine Key11.out.mono ?_
  rintro e v10 ⟨A11, c11, D11, q11, rfl, sl, sm, dd⟩
  obtain ⟨w10, hw⟩ : ∃ W, W = v10.alloc (.cells #[.slice A11 u11.lines.length c11, .slice D11 u11.marks.length q11, .int .u8 u11.fr.1, .int .i64 u11.fr.2.1, .int .i64 u11.fr.2.2.1, .int .i64 u11.fr.2.2.2, .int .i64 u11.drawn] 36) := ⟨_, rfl⟩
  obtain ⟨g11, hg⟩ : ∃ k, k = v10.heap.size := ⟨_, rfl⟩
  have d2 : RowKit.Below v10.heap.size v10 w10 := by rw [hw]; exact al1
  have b10 : RowKit.Below w6.heap.size w6 w10 := dd.trans (d2.mono dd.size)
  clear sl sm dd d2
  have B10 := Lib.hid b10; clear b10
  go_upto_region 12 with fail
  (try rw [← hw, ← hg])
  clear hw hg
  clear z0 z1 z2 z3 z4 z5 z6
  have key12 : Calls Tryd.prog 19 #[.agg #[.slice none 0 0, .slice none 0 0, .int .u8 0, .int .i64 0, .int .i64 0, .int .i64 0, .int .i64 0], .agg #[.int .u8 24, .int .i64 0, .int .i64 0, .int .i64 0]] w10 (RunP w6 u12 8) := place_to (A := none) (c := 0) (B := none) (q := 0) (t := zeroT) (f := (24, (0, 0, 0))) ⟨Nat.le_refl _, Nat.zero_le _, (fun _ => rfl), fun i x hx => by simp [zeroT] at hx⟩ ⟨Nat.le_refl _, Nat.zero_le _, (fun _ => rfl), fun i x hx => by simp [zeroT] at hx⟩ U0.out (by decide) Hu12.out B10.out
  have Key12 := Lib.hid key12; clear key12
  go_wp2_with fail
  refine Key12.out.mono ?_
  rintro e v11 ⟨A12, c12, D12, q12, rfl, sl, sm, dd⟩
  obtain ⟨w11, hw⟩ : ∃ W, W = v11.alloc (.cells #[.slice A12 u12.lines.length c12, .slice D12 u12.marks.length q12, .int .u8 u12.fr.1, .int .i64 u12.fr.2.1, .int .i64 u12.fr.2.2.1, .int .i64 u12.fr.2.2.2, .int .i64 u12.drawn] 36) := ⟨_, rfl⟩
  obtain ⟨g12, hg⟩ : ∃ k, k = v11.heap.size := ⟨_, rfl⟩
  have d2 : RowKit.Below v11.heap.size v11 w11 := by rw [hw]; exact al1
  have b11 : RowKit.Below w6.heap.size w6 w11 := dd.trans (d2.mono dd.size)
  clear sl sm dd d2
  have B11 := Lib.hid b11; clear b11
  go_upto_region 13 with fail
  (try rw [← hw, ← hg])
  clear hw hg
  have key13 : Calls Tryd.prog 11 #[.slice (some ⟨w11.heap.size, 0, none⟩) 3 3, .agg #[.int .u8 0, .int .i64 0, .int .i64 0, .int .i64 0, .int .i64 0], .agg #[.int .u8 0, .int .i64 0]] (w11.alloc (.cells #[.int .u8 65, .slice none 0 0, .int .u8 43, .slice none 0 0, .int .u8 98, .slice none 0 0] 44)) (RunP w6 u13 0) := run_to (ms := [⟨65, []⟩, ⟨43, []⟩, ⟨98, []⟩]) (t := zeroTu) (b := (0, 0)) (bare3N (Blk.new w11 _ _) (fits_u8 (by decide)) (fits_u8 (by decide)) (fits_u8 (by decide))) U0.out (by decide) R13.out (bel_al B11.out)
  have Key13 := Lib.hid key13; clear key13
  go_wp2_with fail
  refine Key13.out.mono ?_
  rintro e v12 ⟨A13, c13, D13, q13, rfl, sl, sm, dd⟩
  obtain ⟨w12, hw⟩ : ∃ W, W = v12.alloc (.cells #[.slice A13 u13.lines.length c13, .slice D13 u13.marks.length q13, .int .u8 u13.fr.1, .int .i64 u13.fr.2.1, .int .i64 u13.fr.2.2.1, .int .i64 u13.fr.2.2.2, .int .i64 u13.drawn] 36) := ⟨_, rfl⟩
  obtain ⟨g13, hg⟩ : ∃ k, k = v12.heap.size := ⟨_, rfl⟩
  have d2 : RowKit.Below v12.heap.size v12 w12 := by rw [hw]; exact al1
  have b12 : RowKit.Below w6.heap.size w6 w12 := dd.trans (d2.mono dd.size)
  have m13 : Blk w12 g13 36 #[.slice A13 u13.lines.length c13, .slice D13 u13.marks.length q13, .int .u8 u13.fr.1, .int .i64 u13.fr.2.1, .int .i64 u13.fr.2.2.1, .int .i64 u13.fr.2.2.2, .int .i64 u13.drawn] := by rw [hw, hg]; exact Blk.new v12 _ _
  have sl13 := sl.later d2
  have sm13 := sm.later d2
  clear sl sm dd d2
  have B12 := Lib.hid b12; clear b12
  have M13 := Lib.hid m13; clear m13
  have Sl13 := Lib.hid sl13; clear sl13
  have Sm13 := Lib.hid sm13; clear sm13
  go_upto_region 14 with fail
  (try rw [← hw, ← hg])
  clear hw hg
  have m8 := M8.out.same (B12.out.block _ M8.out.lt)
  have tB := T0.out.trans ((B6.out.trans (B12.out.mono B6.out.size)).mono T0.out.size)
  have hl2 := HL.out.later tB
  rw [Hu8.out] at m8
  have sm := Sm13.out
  have m13 := M13.out
  rw [Hu13.out] at sm m13
  have hB : RowKit.Below w12.heap.size w12 w12 := RowKit.Below.refl _ _
  have M8 := Lib.hid m8; clear m8
  have Hl2 := Lib.hid hl2; clear hl2
  have TB := Lib.hid tB; clear tB
  have Sm := Lib.hid sm; clear sm
  have M13 := Lib.hid m13; clear m13
  go_upto_region 15 with (first
      | (go_at_call 20; refine (lineG (a := w12) ?_).mono ?_; assumption; rintro e wv ⟨rfl, hB⟩)
      | (go_at_call 22; with_reducible refine (drewN1 (a := w12) Hl2.out ?_).mono ?_; assumption; rintro e wv ⟨rfl, hB⟩)
      | (go_at_call 22; with_reducible refine (drewN2 (a := w12) Hl2.out ?_).mono ?_; assumption; rintro e wv ⟨rfl, hB⟩)
      | (go_at_call 22; with_reducible refine (drewN3 (a := w12) Hl2.out ?_).mono ?_; assumption; rintro e wv ⟨rfl, hB⟩)
      | (go_at_call 22; with_reducible refine (drewN4 (a := w12) Hl2.out ?_).mono ?_; assumption; rintro e wv ⟨rfl, hB⟩)
      | (go_at_call 22; with_reducible refine (drewN5 (a := w12) Hl2.out ?_).mono ?_; assumption; rintro e wv ⟨rfl, hB⟩)
      | (go_at_call 22; with_reducible refine (drewN6 (a := w12) Hl2.out ?_).mono ?_; assumption; rintro e wv ⟨rfl, hB⟩)
      | (go_at_call 22; with_reducible refine (drewN7 (a := w12) Hl2.out ?_).mono ?_; assumption; rintro e wv ⟨rfl, hB⟩))
  have HB := Lib.hid hB; clear hB
  have sm := Sm.out.later HB.out
  obtain ⟨b, off, m1, hd1, eB, hob1, c0, c1, c2, c3, c4, z1, z2, z3⟩ := sm.getMk (i := 0) (by decide)
  obtain ⟨b', off', m2, hd2, eB', hob2, d0, d1, d2, d3, d4, z4, z5, z6⟩ := sm.getMk (i := 1) (by decide)
  have hm1 : m1 = ⟨65, 0, (0, 0, 0)⟩ := (List.cons.inj hd1.out).1.symm
  have hm2 : m2 = ⟨98, 9, (0, 0, 0)⟩ := (List.cons.inj hd2.out).1.symm
  subst hm1 hm2
  have n13 := M13.out.same (HB.out.block _ M13.out.lt)
  rw [eB] at eB'
  injection eB' with eB'
  injection eB' with e1 e2 _
  subst e1 e2
  subst eB
  have a1 : wv.cell? ⟨g13, 1, none⟩ = some (.slice (some ⟨b, off, none⟩) 2 q13) := n13.cell 1
  simp only [Nat.zero_mul, Nat.add_zero, Nat.one_mul] at c0 c1 c2 c3 c4 d0 d1 d2 d3 d4
  clear hd1 hd2 z1 z2 z3 z4 z5 z6
  have he1 : ∀ W', (Op.equalIn 10000 65 (.agg #[.int .u8 65, .int .u8 0, .int .i64 0, .int .i64 0, .int .i64 0]) (.agg #[.int .u8 65, .int .u8 0, .int .i64 0, .int .i64 0, .int .i64 0])).run Tryd.prog W' = .ok true W' := fun W' => (eqIn_mk 9996 ⟨65, 0, (0, 0, 0)⟩ ⟨65, 0, (0, 0, 0)⟩ W').trans (by rw [decide_eq_true rfl])
  have he2 : ∀ W', (Op.equalIn 10000 65 (.agg #[.int .u8 98, .int .u8 9, .int .i64 0, .int .i64 0, .int .i64 0]) (.agg #[.int .u8 98, .int .u8 9, .int .i64 0, .int .i64 0, .int .i64 0])).run Tryd.prog W' = .ok true W' := fun W' => (eqIn_mk 9996 ⟨98, 9, (0, 0, 0)⟩ ⟨98, 9, (0, 0, 0)⟩ W').trans (by rw [decide_eq_true rfl])
  have al := alive_calls wv (HL.out.later (TB.out.trans (HB.out.mono TB.out.size)))
  have Al := Lib.hid al; clear al
  have N13 := Lib.hid n13; clear n13
  go_wp2_with fail
  refine Al.out.mono ?_
  rintro e w99 ⟨rfl, d9⟩
  have bz := HB.out.trans (d9.mono HB.out.size)
  have n8 := M8.out.same (bz.block _ M8.out.lt)
  have tB := TB.out.trans (bz.mono TB.out.size)
  clear a1 c0 c1 c2 c3 c4 d0 d1 d2 d3 d4 he1 he2 d9 bz
  have a0 : w99.cell? ⟨g8, 0, none⟩ = some (.slice A8 1 c8) := n8.cell 0
  have a3 : w99.cell? ⟨g8, 3, none⟩ = some (.int .i64 999997) := n8.cell 3
  have N8 := Lib.hid n8; clear n8
  have TB := Lib.hid tB; clear tB
  go_wp2
  go_ret
  exact ⟨rfl, TB.out⟩
end Go.Proofs.YtldccpmnboebmaaDoor
