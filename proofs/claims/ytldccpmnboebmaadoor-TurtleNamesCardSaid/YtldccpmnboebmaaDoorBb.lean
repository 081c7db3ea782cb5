/-
  Layer 17: the walks of the law's helpers: alive, fit.
-/
import Derived.Test.YtldccpmnboebmaaDoorBa
import Derived.Test.YtldccpmnboebmaaDoorM1
import Derived.Test.YtldccpmnboebmaaDoorLi
import Derived.Test.YtldccpmnboebmaaDoorM2
import Derived.Test.YtldccpmnboebmaaDoorAb
namespace Go.Proofs.YtldccpmnboebmaaDoor
open Go.RowKit Go.Sort
set_option linter.unusedVariables false

theorem bel_al {a w : World} {o : Obj} (h : RowKit.Below a.heap.size a w) : RowKit.Below a.heap.size a (w.alloc o) := h.alloc h.size o
theorem bel_in {W a w : World} (h : RowKit.Below W.heap.size W a) (h2 : RowKit.Below a.heap.size a w) : RowKit.Below W.heap.size W w := h.trans (h2.mono h.size)
def lnC (l : Ln) : List Value := [.int .i64 l.fr.1, .int .i64 l.fr.2.1, .int .i64 l.fr.2.2, .int .i64 l.to.1, .int .i64 l.to.2.1, .int .i64 l.to.2.2, .int .i64 l.dep]
def smI (x : Int) : Bool := decide (-1000000 ≤ x) && decide (x ≤ 1000000)
theorem smI_fit {x : Int} (h : smI x = true) : Fits .i64 x := by
  unfold smI at h
  simp only [Bool.and_eq_true, decide_eq_true_eq] at h
  exact fits_i64 (by omega)
def smL (l : Ln) : Bool := smI l.fr.1 && smI l.fr.2.1 && smI l.fr.2.2 && smI l.to.1 && smI l.to.2.1 && smI l.to.2.2 && smI l.dep
theorem lnC_R {F : Nat → Prop} {w : World} {l : Ln} (h : smL l = true) : pLn.R F w (lnC l) l := by
  unfold smL at h
  simp only [Bool.and_eq_true] at h
  obtain ⟨⟨⟨⟨⟨⟨h1, h2⟩, h3⟩, h4⟩, h5⟩, h6⟩, h7⟩ := h
  exact ⟨rfl, ⟨smI_fit h1, smI_fit h2, smI_fit h3⟩, ⟨smI_fit h4, smI_fit h5, smI_fit h6⟩, smI_fit h7⟩
theorem lns_cells {F : Nat → Prop} {w : World} : ∀ {ls : List Ln}, ls.all smL = true → CellsAre pLn F w (ls.flatMap lnC) ls
  | [], _ => rfl
  | l :: ls, h => by
    rw [List.all_cons, Bool.and_eq_true] at h
    exact ⟨lnC l, ls.flatMap lnC, rfl, lnC_R h.1, lns_cells h.2⟩
theorem ln_lit {w : World} (ls : List Ln) {cells : Array Value} (hc : cells.toList = ls.flatMap lnC) (hf : ls.all smL = true) (hm : ls.length ≤ 100) {n : Nat} (hn : ls.length = n) :
    SlAt pLn (Old (w.alloc (.cells cells 46))) (w.alloc (.cells cells 46)) (some ⟨w.heap.size, 0, none⟩) n ls := by
  have h0 : CellsAre pLn (Old (w.alloc (.cells cells 46))) (w.alloc (.cells cells 46)) cells.toList ls := by rw [hc]; exact lns_cells hf
  exact sl_lit (Blk.new w 46 cells) h0 (by show w.heap.size < _; simp) (by unfold maxLen; omega) hn

theorem lineG {a W : World} {x y z u v q d : Int} (h : RowKit.Below a.heap.size a W) : Calls Tryd.prog 20 #[.int .i64 x, .int .i64 y, .int .i64 z, .int .i64 u, .int .i64 v, .int .i64 q, .int .i64 d] W (fun e W' => e = .returned (.agg #[.int .i64 x, .int .i64 y, .int .i64 z, .int .i64 u, .int .i64 v, .int .i64 q, .int .i64 d]) ∧ RowKit.Below a.heap.size a W') :=
  (line_calls (x, y, z) (u, v, q) d W).mono fun e W' hh => ⟨hh.1, bel_in h hh.2⟩
theorem drewA1_run : parseF [70, 40, 50, 41, 43, 70] = ([⟨70, [2]⟩, ⟨43, []⟩, ⟨70, []⟩], 0) ∧ (runT [⟨70, [2]⟩, ⟨43, []⟩, ⟨70, []⟩] zeroTu (0, 0)).2 = 0 ∧ (runT [⟨70, [2]⟩, ⟨43, []⟩, ⟨70, []⟩] zeroTu (0, 0)).1.lines = [⟨(0, 0, 0), (2, 0, 0), 0⟩, ⟨(2, 0, 0), (2, 1, 0), 0⟩] := by decide +kernel
theorem drewA1 {a W : World} (hL : LibAt a) (h : RowKit.Below a.heap.size a W) : Calls Tryd.prog 22 #[.string ⟨#[70, 40, 50, 41, 43, 70]⟩, .agg #[.int .u8 0, .int .i64 0], .slice (some ⟨W.heap.size, 0, none⟩) 2 2] (W.alloc (.cells #[.int .i64 0, .int .i64 0, .int .i64 0, .int .i64 2, .int .i64 0, .int .i64 0, .int .i64 0, .int .i64 2, .int .i64 0, .int .i64 0, .int .i64 2, .int .i64 1, .int .i64 0, .int .i64 0] 46)) (fun e W' => e = .returned (.bool true) ∧ RowKit.Below a.heap.size a W') := by
  obtain ⟨h1, h2, h3⟩ := drewA1_run
  obtain ⟨⟨u, z⟩, hu⟩ : ∃ r, runT [⟨70, [2]⟩, ⟨43, []⟩, ⟨70, []⟩] zeroTu (0, 0) = r := ⟨_, rfl⟩
  rw [hu] at h2 h3
  simp only at h2 h3
  subst h2
  have hs := ln_lit (w := W) [⟨(0, 0, 0), (2, 0, 0), 0⟩, ⟨(2, 0, 0), (2, 1, 0), 0⟩] (cells := #[.int .i64 0, .int .i64 0, .int .i64 0, .int .i64 2, .int .i64 0, .int .i64 0, .int .i64 0, .int .i64 2, .int .i64 0, .int .i64 0, .int .i64 2, .int .i64 1, .int .i64 0, .int .i64 0]) rfl (by decide) (by decide) (n := 2) rfl
  have key := drew_calls ⟨#[70, 40, 50, 41, 43, 70]⟩ (0, 0) [⟨70, [2]⟩, ⟨43, []⟩, ⟨70, []⟩] u (some ⟨W.heap.size, 0, none⟩) 2 (W.alloc (.cells #[.int .i64 0, .int .i64 0, .int .i64 0, .int .i64 2, .int .i64 0, .int .i64 0, .int .i64 0, .int .i64 2, .int .i64 0, .int .i64 0, .int .i64 2, .int .i64 1, .int .i64 0, .int .i64 0] 46)) (hL.later (bel_al h)) (by decide) (by decide) h1 hu
  rw [h3] at key
  exact (key hs).mono fun e W' hh => ⟨hh.1, bel_in (bel_al h) hh.2⟩
theorem drewA2_run : parseF [70, 91, 94, 70, 93, 70] = ([⟨70, []⟩, ⟨91, []⟩, ⟨94, []⟩, ⟨70, []⟩, ⟨93, []⟩, ⟨70, []⟩], 0) ∧ (runT [⟨70, []⟩, ⟨91, []⟩, ⟨94, []⟩, ⟨70, []⟩, ⟨93, []⟩, ⟨70, []⟩] zeroTu (0, 0)).2 = 0 ∧ (runT [⟨70, []⟩, ⟨91, []⟩, ⟨94, []⟩, ⟨70, []⟩, ⟨93, []⟩, ⟨70, []⟩] zeroTu (0, 0)).1.lines = [⟨(0, 0, 0), (1, 0, 0), 0⟩, ⟨(1, 0, 0), (1, 0, 1), 1⟩, ⟨(1, 0, 0), (2, 0, 0), 0⟩] := by decide +kernel
theorem drewA2 {a W : World} (hL : LibAt a) (h : RowKit.Below a.heap.size a W) : Calls Tryd.prog 22 #[.string ⟨#[70, 91, 94, 70, 93, 70]⟩, .agg #[.int .u8 0, .int .i64 0], .slice (some ⟨W.heap.size, 0, none⟩) 3 3] (W.alloc (.cells #[.int .i64 0, .int .i64 0, .int .i64 0, .int .i64 1, .int .i64 0, .int .i64 0, .int .i64 0, .int .i64 1, .int .i64 0, .int .i64 0, .int .i64 1, .int .i64 0, .int .i64 1, .int .i64 1, .int .i64 1, .int .i64 0, .int .i64 0, .int .i64 2, .int .i64 0, .int .i64 0, .int .i64 0] 46)) (fun e W' => e = .returned (.bool true) ∧ RowKit.Below a.heap.size a W') := by
  obtain ⟨h1, h2, h3⟩ := drewA2_run
  obtain ⟨⟨u, z⟩, hu⟩ : ∃ r, runT [⟨70, []⟩, ⟨91, []⟩, ⟨94, []⟩, ⟨70, []⟩, ⟨93, []⟩, ⟨70, []⟩] zeroTu (0, 0) = r := ⟨_, rfl⟩
  rw [hu] at h2 h3
  simp only at h2 h3
  subst h2
  have hs := ln_lit (w := W) [⟨(0, 0, 0), (1, 0, 0), 0⟩, ⟨(1, 0, 0), (1, 0, 1), 1⟩, ⟨(1, 0, 0), (2, 0, 0), 0⟩] (cells := #[.int .i64 0, .int .i64 0, .int .i64 0, .int .i64 1, .int .i64 0, .int .i64 0, .int .i64 0, .int .i64 1, .int .i64 0, .int .i64 0, .int .i64 1, .int .i64 0, .int .i64 1, .int .i64 1, .int .i64 1, .int .i64 0, .int .i64 0, .int .i64 2, .int .i64 0, .int .i64 0, .int .i64 0]) rfl (by decide) (by decide) (n := 3) rfl
  have key := drew_calls ⟨#[70, 91, 94, 70, 93, 70]⟩ (0, 0) [⟨70, []⟩, ⟨91, []⟩, ⟨94, []⟩, ⟨70, []⟩, ⟨93, []⟩, ⟨70, []⟩] u (some ⟨W.heap.size, 0, none⟩) 3 (W.alloc (.cells #[.int .i64 0, .int .i64 0, .int .i64 0, .int .i64 1, .int .i64 0, .int .i64 0, .int .i64 0, .int .i64 1, .int .i64 0, .int .i64 0, .int .i64 1, .int .i64 0, .int .i64 1, .int .i64 1, .int .i64 1, .int .i64 0, .int .i64 0, .int .i64 2, .int .i64 0, .int .i64 0, .int .i64 0] 46)) (hL.later (bel_al h)) (by decide) (by decide) h1 hu
  rw [h3] at key
  exact (key hs).mono fun e W' hh => ⟨hh.1, bel_in (bel_al h) hh.2⟩
theorem drewA3_run : parseF [70, 70, 70] = ([⟨70, []⟩, ⟨70, []⟩, ⟨70, []⟩], 0) ∧ (runT [⟨70, []⟩, ⟨70, []⟩, ⟨70, []⟩] zeroTu (4, 2)).2 = 0 ∧ (runT [⟨70, []⟩, ⟨70, []⟩, ⟨70, []⟩] zeroTu (4, 2)).1.lines = [⟨(0, 0, 0), (1, 0, 0), 0⟩, ⟨(1, 0, 0), (2, 0, 0), 0⟩, ⟨(2, 0, 0), (2, 0, 1), 0⟩] := by decide +kernel
theorem drewA3 {a W : World} (hL : LibAt a) (h : RowKit.Below a.heap.size a W) : Calls Tryd.prog 22 #[.string ⟨#[70, 70, 70]⟩, .agg #[.int .u8 4, .int .i64 2], .slice (some ⟨W.heap.size, 0, none⟩) 3 3] (W.alloc (.cells #[.int .i64 0, .int .i64 0, .int .i64 0, .int .i64 1, .int .i64 0, .int .i64 0, .int .i64 0, .int .i64 1, .int .i64 0, .int .i64 0, .int .i64 2, .int .i64 0, .int .i64 0, .int .i64 0, .int .i64 2, .int .i64 0, .int .i64 0, .int .i64 2, .int .i64 0, .int .i64 1, .int .i64 0] 46)) (fun e W' => e = .returned (.bool true) ∧ RowKit.Below a.heap.size a W') := by
  obtain ⟨h1, h2, h3⟩ := drewA3_run
  obtain ⟨⟨u, z⟩, hu⟩ : ∃ r, runT [⟨70, []⟩, ⟨70, []⟩, ⟨70, []⟩] zeroTu (4, 2) = r := ⟨_, rfl⟩
  rw [hu] at h2 h3
  simp only at h2 h3
  subst h2
  have hs := ln_lit (w := W) [⟨(0, 0, 0), (1, 0, 0), 0⟩, ⟨(1, 0, 0), (2, 0, 0), 0⟩, ⟨(2, 0, 0), (2, 0, 1), 0⟩] (cells := #[.int .i64 0, .int .i64 0, .int .i64 0, .int .i64 1, .int .i64 0, .int .i64 0, .int .i64 0, .int .i64 1, .int .i64 0, .int .i64 0, .int .i64 2, .int .i64 0, .int .i64 0, .int .i64 0, .int .i64 2, .int .i64 0, .int .i64 0, .int .i64 2, .int .i64 0, .int .i64 1, .int .i64 0]) rfl (by decide) (by decide) (n := 3) rfl
  have key := drew_calls ⟨#[70, 70, 70]⟩ (4, 2) [⟨70, []⟩, ⟨70, []⟩, ⟨70, []⟩] u (some ⟨W.heap.size, 0, none⟩) 3 (W.alloc (.cells #[.int .i64 0, .int .i64 0, .int .i64 0, .int .i64 1, .int .i64 0, .int .i64 0, .int .i64 0, .int .i64 1, .int .i64 0, .int .i64 0, .int .i64 2, .int .i64 0, .int .i64 0, .int .i64 0, .int .i64 2, .int .i64 0, .int .i64 0, .int .i64 2, .int .i64 0, .int .i64 1, .int .i64 0] 46)) (hL.later (bel_al h)) (by decide) (by decide) h1 hu
  rw [h3] at key
  exact (key hs).mono fun e W' hh => ⟨hh.1, bel_in (bel_al h) hh.2⟩
set_option maxRecDepth 100000 in
set_option maxHeartbeats 8000000 in
theorem alive_calls (w : World) (hL : LibAt w) : Calls Tryd.prog 9 #[] w (OkPost w) := by
  have HL := Lib.hid hL; clear hL
  go_enter Tryd.func9, Tryd.ntmps9
  go_wp2_with fail
  refine (lineG (a := w) (W := w) (RowKit.Below.refl _ _)).mono ?_
  rintro e w1 ⟨rfl, b1⟩
  obtain ⟨w2, hw2⟩ : ∃ W, W = w1.alloc (.cells #[.int .i64 0, .int .i64 0, .int .i64 0, .int .i64 1, .int .i64 0, .int .i64 0, .int .i64 0] 46) := ⟨_, rfl⟩
  obtain ⟨g1, hg1⟩ : ∃ g, g = w1.heap.size := ⟨_, rfl⟩
  have n1 : Blk w2 g1 46 #[.int .i64 0, .int .i64 0, .int .i64 0, .int .i64 1, .int .i64 0, .int .i64 0, .int .i64 0] := by rw [hw2, hg1]; exact Blk.new w1 _ _
  have b2 : RowKit.Below w.heap.size w w2 := by rw [hw2]; exact bel_al b1
  go_upto_region 2 with fail
  rw [← hw2, ← hg1]
  clear hw2 hg1 b1
  have b3 : RowKit.Below w2.heap.size w2 w2.drew := below_drew (RowKit.Below.refl _ _)
  have sk : ∀ w', RowKit.Below w2.heap.size w2 w' → w'.cell? ⟨g1, 0, none⟩ = some (.int .i64 0) ∧ w'.cell? ⟨g1, 1, none⟩ = some (.int .i64 0) ∧ w'.cell? ⟨g1, 2, none⟩ = some (.int .i64 0) ∧ w'.cell? ⟨g1, 3, none⟩ = some (.int .i64 1) ∧ w'.cell? ⟨g1, 4, none⟩ = some (.int .i64 0) ∧ w'.cell? ⟨g1, 5, none⟩ = some (.int .i64 0) ∧ w'.cell? ⟨g1, 6, none⟩ = some (.int .i64 0) := fun w' h => ⟨(n1.same (h.block _ n1.lt)).cell 0, (n1.same (h.block _ n1.lt)).cell 1, (n1.same (h.block _ n1.lt)).cell 2, (n1.same (h.block _ n1.lt)).cell 3, (n1.same (h.block _ n1.lt)).cell 4, (n1.same (h.block _ n1.lt)).cell 5, (n1.same (h.block _ n1.lt)).cell 6⟩
  obtain ⟨q0, q1, q2, q3, q4, q5, q6⟩ := sk w2 (RowKit.Below.refl _ _)
  have hl2 := HL.out.later b2
  have Sk := Lib.hid sk; clear sk
  have B2 := Lib.hid b2; clear b2
  have N1 := Lib.hid n1; clear n1
  have Hl2 := Lib.hid hl2; clear hl2
  go_region_held3 (fun w' => w'.cell? ⟨g1, 0, none⟩ = some (.int .i64 0) ∧ w'.cell? ⟨g1, 1, none⟩ = some (.int .i64 0) ∧ w'.cell? ⟨g1, 2, none⟩ = some (.int .i64 0) ∧ w'.cell? ⟨g1, 3, none⟩ = some (.int .i64 1) ∧ w'.cell? ⟨g1, 4, none⟩ = some (.int .i64 0) ∧ w'.cell? ⟨g1, 5, none⟩ = some (.int .i64 0) ∧ w'.cell? ⟨g1, 6, none⟩ = some (.int .i64 0))
    (first | exact Sk.out _ (by assumption) | exact Sk.out _ (bel_al (by assumption)) | exact ⟨q0, q1, q2, q3, q4, q5, q6⟩ | assumption)
    (first
      | (go_at_call 20; refine (lineG (a := w2) ?_).mono ?_; assumption; rintro e wv ⟨rfl, hB⟩)
      | (go_at_call 22; with_reducible refine (drewA1 (a := w2) Hl2.out ?_).mono ?_; assumption; rintro e wv ⟨rfl, hB⟩)
      | (go_at_call 22; with_reducible refine (drewA2 (a := w2) Hl2.out ?_).mono ?_; assumption; rintro e wv ⟨rfl, hB⟩)
      | (go_at_call 22; with_reducible refine (drewA3 (a := w2) Hl2.out ?_).mono ?_; assumption; rintro e wv ⟨rfl, hB⟩))
  all_goals
    have hB9 := bel_in B2.out hB
    clear hB
    have HB9 := Lib.hid hB9; clear hB9
    go_wp2
    go_ret
    exact ⟨rfl, HB9.out⟩
def fitB (ms : List Mod) (t : Tur) (b : Trop) : Bool :=
  if 300 < ms.length then false else if checkF ms ≠ 0 then false else if checkFr t.1 ≠ 0 then false else if t.2 < 0 then false else if 1000000 < t.2 then false else if ¬ b.1 ≤ 5 then false else if ¬ 0 ≤ b.2 then false else if ¬ b.2 ≤ 1000000 then false else true
theorem fitB_yes {ms : List Mod} {t : Tur} {b : Trop} (h : fitB ms t b = true) : ms.length ≤ 300 ∧ checkF ms = 0 ∧ FitT t b := by
  unfold fitB at h
  split at h; · cases h
  split at h; · cases h
  split at h; · cases h
  split at h; · cases h
  split at h; · cases h
  split at h; · cases h
  split at h; · cases h
  split at h; · cases h
  rename_i h1 h2 h3 h4 h5 h6 h7 h8
  exact ⟨by omega, by simpa using h2, by simpa using h3, by omega, by omega, by simpa using h6, by simpa using h7, by simpa using h8⟩
set_option maxRecDepth 100000 in
set_option maxHeartbeats 8000000 in
theorem fit_calls (A : Option Addr) (c : Nat) (ms : List Mod) (t : Tur) (b : Trop) (w : World) (h : SlAt pMod (Old w) w A c ms) : Calls Tryd.prog 10 #[.slice A ms.length c, .agg #[.int .u8 t.1.1, .int .i64 t.1.2.1, .int .i64 t.1.2.2.1, .int .i64 t.1.2.2.2, .int .i64 t.2], .agg #[.int .u8 b.1, .int .i64 b.2]] w (BoolPost (fitB ms t b) w) := by
  have q1 := h.lenle
  obtain ⟨W, hW⟩ : ∃ W, W = (w.alloc (.cells #[.int .u8 t.1.1, .int .i64 t.1.2.1, .int .i64 t.1.2.2.1, .int .i64 t.1.2.2.2, .int .i64 t.2] 28)).alloc (.cells #[.int .u8 b.1, .int .i64 b.2] 30) := ⟨_, rfl⟩
  have b0 : Blk W w.heap.size 28 #[.int .u8 t.1.1, .int .i64 t.1.2.1, .int .i64 t.1.2.2.1, .int .i64 t.1.2.2.2, .int .i64 t.2] := by rw [hW]; exact (Blk.new w _ _).alloc _
  have b1 : Blk W (w.heap.size + 1) 30 #[.int .u8 b.1, .int .i64 b.2] := by
    rw [hW]
    have := Blk.new (w.alloc (.cells #[.int .u8 t.1.1, .int .i64 t.1.2.1, .int .i64 t.1.2.2.1, .int .i64 t.1.2.2.2, .int .i64 t.2] 28)) 30 #[.int .u8 b.1, .int .i64 b.2]
    simpa using this
  have t0 : RowKit.Below w.heap.size w W := by rw [hW]; exact al2
  have y0 := b0.cell 0
  have y1 := b0.cell 1
  have y2 := b0.cell 2
  have y3 := b0.cell 3
  have y4 := b0.cell 4
  have x0 := b1.cell 0
  have x1 := b1.cell 1
  have ck := refCheck_calls A c ms W (h.later t0)
  unfold CheckPost at ck
  have cf := fun W' => rFCheck_calls t.1 W'
  have hr : fitB ms t b = fitB ms t b := rfl
  conv at hr => rhs; unfold fitB
  have B0 := Lib.hid b0; clear b0
  have B1 := Lib.hid b1; clear b1
  have T0 := Lib.hid t0; clear t0
  have H := Lib.hid h; clear h
  have Ck := Lib.hid ck; clear ck
  have Cf := Lib.hid cf; clear cf
  by_cases n1 : 300 < ms.length
  case pos =>
    rw [if_pos n1] at hr
    have Hr := Lib.hid hr; clear hr
    go_enter Tryd.func10, Tryd.ntmps10
    go_wp2
    (try rw [← hW])
    clear hW
    go_ret
    exact ⟨bool_post Hr.out, T0.out⟩
  case neg =>
  rw [if_neg n1] at hr
  by_cases n2 : checkF ms ≠ 0
  case pos =>
    rw [if_pos n2] at hr
    have e1 : (checkF ms != 0) = true := by simpa using n2
    have Hr := Lib.hid hr; clear hr
    have N2 := Lib.hid n2; clear n2
    go_enter Tryd.func10, Tryd.ntmps10
    go_wp2_with fail
    (try rw [← hW])
    clear hW
    refine Ck.out.mono ?_
    rintro e w1 ⟨rfl, d1⟩
    have k0 := B0.out.same (d1.block _ B0.out.lt)
    have k1 := B1.out.same (d1.block _ B1.out.lt)
    have t1 := T0.out.trans (d1.mono T0.out.size)
    clear y0 y1 y2 y3 y4 x0 x1 d1
    have y0 := k0.cell 0
    have y1 := k0.cell 1
    have y2 := k0.cell 2
    have y3 := k0.cell 3
    have y4 := k0.cell 4
    have x0 := k1.cell 0
    have x1 := k1.cell 1
    have K0 := Lib.hid k0; clear k0
    have K1 := Lib.hid k1; clear k1
    have T1 := Lib.hid t1; clear t1
    go_wp2
    go_ret
    exact ⟨bool_post Hr.out, T1.out⟩
  case neg =>
  rw [if_neg n2] at hr
  have e1 : (checkF ms != 0) = false := by simpa using n2
  have N2 := Lib.hid n2; clear n2
  by_cases n3 : checkFr t.1 ≠ 0
  case pos =>
    rw [if_pos n3] at hr
    have e2 : (checkFr t.1 != 0) = true := by simpa using n3
    have Hr := Lib.hid hr; clear hr
    have N3 := Lib.hid n3; clear n3
    go_enter Tryd.func10, Tryd.ntmps10
    go_wp2_with fail
    (try rw [← hW])
    clear hW
    refine Ck.out.mono ?_
    rintro e w1 ⟨rfl, d1⟩
    have k0 := B0.out.same (d1.block _ B0.out.lt)
    have k1 := B1.out.same (d1.block _ B1.out.lt)
    have t1 := T0.out.trans (d1.mono T0.out.size)
    clear y0 y1 y2 y3 y4 x0 x1 d1
    have y0 := k0.cell 0
    have y1 := k0.cell 1
    have y2 := k0.cell 2
    have y3 := k0.cell 3
    have y4 := k0.cell 4
    have x0 := k1.cell 0
    have x1 := k1.cell 1
    have K0 := Lib.hid k0; clear k0
    have K1 := Lib.hid k1; clear k1
    have T1 := Lib.hid t1; clear t1
    go_wp2_with fail
    refine (Cf.out w1).mono ?_
    rintro e w2 ⟨rfl, d1⟩
    have k0 := K0.out.same (d1.block _ K0.out.lt)
    have k1 := K1.out.same (d1.block _ K1.out.lt)
    have t2 := T1.out.trans (d1.mono T1.out.size)
    clear y0 y1 y2 y3 y4 x0 x1 d1
    have y0 := k0.cell 0
    have y1 := k0.cell 1
    have y2 := k0.cell 2
    have y3 := k0.cell 3
    have y4 := k0.cell 4
    have x0 := k1.cell 0
    have x1 := k1.cell 1
    have K0 := Lib.hid k0; clear k0
    have K1 := Lib.hid k1; clear k1
    have T2 := Lib.hid t2; clear t2
    go_wp2
    go_ret
    exact ⟨bool_post (Hr.out.trans (by first | rfl | simp [n8])), T2.out⟩
  case neg =>
  rw [if_neg n3] at hr
  have e2 : (checkFr t.1 != 0) = false := by simpa using n3
  have N3 := Lib.hid n3; clear n3
  by_cases n4 : t.2 < 0
  case pos =>
    rw [if_pos n4] at hr
    have Hr := Lib.hid hr; clear hr
    go_enter Tryd.func10, Tryd.ntmps10
    go_wp2_with fail
    (try rw [← hW])
    clear hW
    refine Ck.out.mono ?_
    rintro e w1 ⟨rfl, d1⟩
    have k0 := B0.out.same (d1.block _ B0.out.lt)
    have k1 := B1.out.same (d1.block _ B1.out.lt)
    have t1 := T0.out.trans (d1.mono T0.out.size)
    clear y0 y1 y2 y3 y4 x0 x1 d1
    have y0 := k0.cell 0
    have y1 := k0.cell 1
    have y2 := k0.cell 2
    have y3 := k0.cell 3
    have y4 := k0.cell 4
    have x0 := k1.cell 0
    have x1 := k1.cell 1
    have K0 := Lib.hid k0; clear k0
    have K1 := Lib.hid k1; clear k1
    have T1 := Lib.hid t1; clear t1
    go_wp2_with fail
    refine (Cf.out w1).mono ?_
    rintro e w2 ⟨rfl, d1⟩
    have k0 := K0.out.same (d1.block _ K0.out.lt)
    have k1 := K1.out.same (d1.block _ K1.out.lt)
    have t2 := T1.out.trans (d1.mono T1.out.size)
    clear y0 y1 y2 y3 y4 x0 x1 d1
    have y0 := k0.cell 0
    have y1 := k0.cell 1
    have y2 := k0.cell 2
    have y3 := k0.cell 3
    have y4 := k0.cell 4
    have x0 := k1.cell 0
    have x1 := k1.cell 1
    have K0 := Lib.hid k0; clear k0
    have K1 := Lib.hid k1; clear k1
    have T2 := Lib.hid t2; clear t2
    go_wp2
    go_ret
    exact ⟨bool_post (Hr.out.trans (by first | rfl | simp [n8])), T2.out⟩
  case neg =>
  rw [if_neg n4] at hr
  by_cases n5 : 1000000 < t.2
  case pos =>
    rw [if_pos n5] at hr
    have Hr := Lib.hid hr; clear hr
    go_enter Tryd.func10, Tryd.ntmps10
    go_wp2_with fail
    (try rw [← hW])
    clear hW
    refine Ck.out.mono ?_
    rintro e w1 ⟨rfl, d1⟩
    have k0 := B0.out.same (d1.block _ B0.out.lt)
    have k1 := B1.out.same (d1.block _ B1.out.lt)
    have t1 := T0.out.trans (d1.mono T0.out.size)
    clear y0 y1 y2 y3 y4 x0 x1 d1
    have y0 := k0.cell 0
    have y1 := k0.cell 1
    have y2 := k0.cell 2
    have y3 := k0.cell 3
    have y4 := k0.cell 4
    have x0 := k1.cell 0
    have x1 := k1.cell 1
    have K0 := Lib.hid k0; clear k0
    have K1 := Lib.hid k1; clear k1
    have T1 := Lib.hid t1; clear t1
    go_wp2_with fail
    refine (Cf.out w1).mono ?_
    rintro e w2 ⟨rfl, d1⟩
    have k0 := K0.out.same (d1.block _ K0.out.lt)
    have k1 := K1.out.same (d1.block _ K1.out.lt)
    have t2 := T1.out.trans (d1.mono T1.out.size)
    clear y0 y1 y2 y3 y4 x0 x1 d1
    have y0 := k0.cell 0
    have y1 := k0.cell 1
    have y2 := k0.cell 2
    have y3 := k0.cell 3
    have y4 := k0.cell 4
    have x0 := k1.cell 0
    have x1 := k1.cell 1
    have K0 := Lib.hid k0; clear k0
    have K1 := Lib.hid k1; clear k1
    have T2 := Lib.hid t2; clear t2
    go_wp2
    go_ret
    exact ⟨bool_post (Hr.out.trans (by first | rfl | simp [n8])), T2.out⟩
  case neg =>
  rw [if_neg n5] at hr
  by_cases n6 : ¬ b.1 ≤ 5
  case pos =>
    rw [if_pos n6] at hr
    have Hr := Lib.hid hr; clear hr
    go_enter Tryd.func10, Tryd.ntmps10
    go_wp2_with fail
    (try rw [← hW])
    clear hW
    refine Ck.out.mono ?_
    rintro e w1 ⟨rfl, d1⟩
    have k0 := B0.out.same (d1.block _ B0.out.lt)
    have k1 := B1.out.same (d1.block _ B1.out.lt)
    have t1 := T0.out.trans (d1.mono T0.out.size)
    clear y0 y1 y2 y3 y4 x0 x1 d1
    have y0 := k0.cell 0
    have y1 := k0.cell 1
    have y2 := k0.cell 2
    have y3 := k0.cell 3
    have y4 := k0.cell 4
    have x0 := k1.cell 0
    have x1 := k1.cell 1
    have K0 := Lib.hid k0; clear k0
    have K1 := Lib.hid k1; clear k1
    have T1 := Lib.hid t1; clear t1
    go_wp2_with fail
    refine (Cf.out w1).mono ?_
    rintro e w2 ⟨rfl, d1⟩
    have k0 := K0.out.same (d1.block _ K0.out.lt)
    have k1 := K1.out.same (d1.block _ K1.out.lt)
    have t2 := T1.out.trans (d1.mono T1.out.size)
    clear y0 y1 y2 y3 y4 x0 x1 d1
    have y0 := k0.cell 0
    have y1 := k0.cell 1
    have y2 := k0.cell 2
    have y3 := k0.cell 3
    have y4 := k0.cell 4
    have x0 := k1.cell 0
    have x1 := k1.cell 1
    have K0 := Lib.hid k0; clear k0
    have K1 := Lib.hid k1; clear k1
    have T2 := Lib.hid t2; clear t2
    go_wp2
    go_ret
    exact ⟨bool_post (Hr.out.trans (by first | rfl | simp [n8])), T2.out⟩
  case neg =>
  rw [if_neg n6] at hr
  by_cases n7 : ¬ 0 ≤ b.2
  case pos =>
    rw [if_pos n7] at hr
    have Hr := Lib.hid hr; clear hr
    go_enter Tryd.func10, Tryd.ntmps10
    go_wp2_with fail
    (try rw [← hW])
    clear hW
    refine Ck.out.mono ?_
    rintro e w1 ⟨rfl, d1⟩
    have k0 := B0.out.same (d1.block _ B0.out.lt)
    have k1 := B1.out.same (d1.block _ B1.out.lt)
    have t1 := T0.out.trans (d1.mono T0.out.size)
    clear y0 y1 y2 y3 y4 x0 x1 d1
    have y0 := k0.cell 0
    have y1 := k0.cell 1
    have y2 := k0.cell 2
    have y3 := k0.cell 3
    have y4 := k0.cell 4
    have x0 := k1.cell 0
    have x1 := k1.cell 1
    have K0 := Lib.hid k0; clear k0
    have K1 := Lib.hid k1; clear k1
    have T1 := Lib.hid t1; clear t1
    go_wp2_with fail
    refine (Cf.out w1).mono ?_
    rintro e w2 ⟨rfl, d1⟩
    have k0 := K0.out.same (d1.block _ K0.out.lt)
    have k1 := K1.out.same (d1.block _ K1.out.lt)
    have t2 := T1.out.trans (d1.mono T1.out.size)
    clear y0 y1 y2 y3 y4 x0 x1 d1
    have y0 := k0.cell 0
    have y1 := k0.cell 1
    have y2 := k0.cell 2
    have y3 := k0.cell 3
    have y4 := k0.cell 4
    have x0 := k1.cell 0
    have x1 := k1.cell 1
    have K0 := Lib.hid k0; clear k0
    have K1 := Lib.hid k1; clear k1
    have T2 := Lib.hid t2; clear t2
    go_wp2
    go_ret
    exact ⟨bool_post (Hr.out.trans (by first | rfl | simp [n8])), T2.out⟩
  case neg =>
  rw [if_neg n7] at hr
  by_cases n8 : ¬ b.2 ≤ 1000000
  case pos =>
    rw [if_pos n8] at hr
    have Hr := Lib.hid hr; clear hr
    go_enter Tryd.func10, Tryd.ntmps10
    go_wp2_with fail
    (try rw [← hW])
    clear hW
    refine Ck.out.mono ?_
    rintro e w1 ⟨rfl, d1⟩
    have k0 := B0.out.same (d1.block _ B0.out.lt)
    have k1 := B1.out.same (d1.block _ B1.out.lt)
    have t1 := T0.out.trans (d1.mono T0.out.size)
    clear y0 y1 y2 y3 y4 x0 x1 d1
    have y0 := k0.cell 0
    have y1 := k0.cell 1
    have y2 := k0.cell 2
    have y3 := k0.cell 3
    have y4 := k0.cell 4
    have x0 := k1.cell 0
    have x1 := k1.cell 1
    have K0 := Lib.hid k0; clear k0
    have K1 := Lib.hid k1; clear k1
    have T1 := Lib.hid t1; clear t1
    go_wp2_with fail
    refine (Cf.out w1).mono ?_
    rintro e w2 ⟨rfl, d1⟩
    have k0 := K0.out.same (d1.block _ K0.out.lt)
    have k1 := K1.out.same (d1.block _ K1.out.lt)
    have t2 := T1.out.trans (d1.mono T1.out.size)
    clear y0 y1 y2 y3 y4 x0 x1 d1
    have y0 := k0.cell 0
    have y1 := k0.cell 1
    have y2 := k0.cell 2
    have y3 := k0.cell 3
    have y4 := k0.cell 4
    have x0 := k1.cell 0
    have x1 := k1.cell 1
    have K0 := Lib.hid k0; clear k0
    have K1 := Lib.hid k1; clear k1
    have T2 := Lib.hid t2; clear t2
    go_wp2
    go_ret
    exact ⟨bool_post (Hr.out.trans (by first | rfl | simp [n8])), T2.out⟩
  case neg =>
  rw [if_neg n8] at hr
  have n6 := Decidable.not_not.1 n6
  have n7 := Decidable.not_not.1 n7
  have n8 := Decidable.not_not.1 n8
  have Hr := Lib.hid hr; clear hr
  go_enter Tryd.func10, Tryd.ntmps10
  go_wp2_with fail
  (try rw [← hW])
  clear hW
  refine Ck.out.mono ?_
  rintro e w1 ⟨rfl, d1⟩
  have k0 := B0.out.same (d1.block _ B0.out.lt)
  have k1 := B1.out.same (d1.block _ B1.out.lt)
  have t1 := T0.out.trans (d1.mono T0.out.size)
  clear y0 y1 y2 y3 y4 x0 x1 d1
  have y0 := k0.cell 0
  have y1 := k0.cell 1
  have y2 := k0.cell 2
  have y3 := k0.cell 3
  have y4 := k0.cell 4
  have x0 := k1.cell 0
  have x1 := k1.cell 1
  have K0 := Lib.hid k0; clear k0
  have K1 := Lib.hid k1; clear k1
  have T1 := Lib.hid t1; clear t1
  go_wp2_with fail
  refine (Cf.out w1).mono ?_
  rintro e w2 ⟨rfl, d1⟩
  have k0 := K0.out.same (d1.block _ K0.out.lt)
  have k1 := K1.out.same (d1.block _ K1.out.lt)
  have t2 := T1.out.trans (d1.mono T1.out.size)
  clear y0 y1 y2 y3 y4 x0 x1 d1
  have y0 := k0.cell 0
  have y1 := k0.cell 1
  have y2 := k0.cell 2
  have y3 := k0.cell 3
  have y4 := k0.cell 4
  have x0 := k1.cell 0
  have x1 := k1.cell 1
  have K0 := Lib.hid k0; clear k0
  have K1 := Lib.hid k1; clear k1
  have T2 := Lib.hid t2; clear t2
  go_wp2
  go_ret
  exact ⟨bool_post (Hr.out.trans (by first | rfl | simp [n8])), T2.out⟩
end Go.Proofs.YtldccpmnboebmaaDoor
