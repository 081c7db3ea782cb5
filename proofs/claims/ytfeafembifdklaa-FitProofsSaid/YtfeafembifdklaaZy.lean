/-
  Layer 43: the walk of Prove.
-/
import Derived.Test.YtfeafembifdklaaZw
import Derived.Laws.EntriesVeiled
namespace Go.Proofs.Ytfeafembifdklaa
open Go.RowKit Go.Sort


def proveL (f : Fit) : List Cub := lookF f (bestF f).2 (span f.lo f.hi + 1) f.lo f.hi []
def proveF (f : Fit) : List Cub × Int := if checkFit f = 0 then (if 2000 < (proveL f).length then ([], 4) else (proveL f, 0)) else ([], checkFit f)
def ProvePost (f : Fit) (w : World) (e : Ending) (w' : World) : Prop :=
  Below w.heap.size w w' ∧ ∃ A c, e = .returned (.tuple #[.slice A (proveF f).1.length c, .int .i64 (proveF f).2]) ∧ SlAt pCub (fun k => w.heap.size ≤ k ∧ k < w'.heap.size) w' A c (proveF f).1
def ProvePostF (f : Fit) (w : World) (e : Ending) (w' : World) : Prop :=
  Below w.heap.size w w' ∧ ∃ A c, e = .returned (.tuple #[.slice A (proveF f).1.length c, .int .i64 (proveF f).2]) ∧ SlAt pCubF (fun k => w.heap.size ≤ k ∧ k < w'.heap.size) w' A c (proveF f).1
theorem cubs_nilF {F : Nat → Prop} {w : World} : SlAt pCubF F w none 0 ([] : List Cub) := ⟨Nat.le_refl _, Nat.zero_le _, fun _ => rfl, fun i x hx => by simp at hx⟩
theorem cubs_nil {F : Nat → Prop} {w : World} : SlAt pCub F w none 0 ([] : List Cub) := ⟨Nat.le_refl _, Nat.zero_le _, fun _ => rfl, fun i x hx => by simp at hx⟩

set_option maxRecDepth 100000 in
set_option maxHeartbeats 8000000 in
theorem prove_callsF (f : Fit) (A1 : Option Addr) (c1 : Nat) (A2 : Option Addr) (c2 : Nat) (A3 : Option Addr) (c3 : Nat) (A4 : Option Addr) (c4 : Nat) (w : World) (h : FitAt f (Old w) w A1 c1 A2 c2 A3 c3 A4 c4) : Calls Try.prog 6 #[.agg #[.slice A1 f.lo.length c1, .slice A2 f.hi.length c2, .slice A3 f.terms.length c3, .slice A4 f.goals.length c4]] w (ProvePostF f w) := by
  have m1 := h.l.lenle
  obtain ⟨W0, hW0⟩ : ∃ W0, W0 = w.alloc (.cells #[.slice A1 f.lo.length c1, .slice A2 f.hi.length c2, .slice A3 f.terms.length c3, .slice A4 f.goals.length c4] 25) := ⟨_, rfl⟩
  have hb0 : Below w.heap.size w W0 := by rw [hW0]; exact (Below.refl _ _).alloc (Nat.le_refl _) _
  have hz0 : w.heap.size + 1 ≤ W0.heap.size := by rw [hW0]; simp
  have hl0 : w.heap.size < W0.heap.size := by omega
  have hbl0 : Blk W0 w.heap.size 25 #[.slice A1 f.lo.length c1, .slice A2 f.hi.length c2, .slice A3 f.terms.length c3, .slice A4 f.goals.length c4] := by rw [hW0]; exact Blk.new _ _ _
  have h0 := h.later hb0
  have cells : ∀ W : World, Below W0.heap.size W0 W → W.cell? ⟨w.heap.size, 0, none⟩ = some (.slice A1 f.lo.length c1) ∧ W.cell? ⟨w.heap.size, 1, none⟩ = some (.slice A2 f.hi.length c2) ∧ W.cell? ⟨w.heap.size, 2, none⟩ = some (.slice A3 f.terms.length c3) ∧ W.cell? ⟨w.heap.size, 3, none⟩ = some (.slice A4 f.goals.length c4) := fun W hW => (hbl0.same (hW.block _ hl0)).four
  have H0 := Lib.hid h0; clear h0
  have Hb0 := Lib.hid hb0; clear hb0
  have Hbl0 := Lib.hid hbl0; clear hbl0
  have HW0 := Lib.hid hW0; clear hW0
  have Cells := Lib.hid cells; clear cells
  clear h
  by_cases hck : checkFit f = 0
  · have hv := checkFit_valid hck
    obtain ⟨p1, p2, p3, p4, p5, p6, p7⟩ := valid_parts hv
    have hok : CubOk f f.lo f.hi := ⟨hv, rfl, p3, p6⟩
    have hmin : ∀ y, InBox f.lo f.hi y → (bestF f).2 ≤ costF f y := fun y hy => ((best_min hv).2.2 y hy).1
    have Hck := Lib.hid hck; clear hck
    have Hv := Lib.hid hv; clear hv
    have Hok := Lib.hid hok; clear hok
    have Hmin := Lib.hid hmin; clear hmin
    clear p1 p2 p3 p4 p5 p6 p7
    go_enter Try.func6, Try.ntmps6
    go_wp2_with fail
    rw [← HW0.out]
    refine (best_calls f A1 c1 A2 c2 A3 c3 A4 c4 W0 H0.out).mono ?_
    rintro e w1 ⟨hb1, hc⟩
    rcases hc with ⟨hc, _⟩ | ⟨_, A7, c7, rfl, _⟩
    · exact absurd Hck.out hc
    obtain ⟨least, hle⟩ : ∃ least, (bestF f).2 = least := ⟨_, rfl⟩
    rw [hle]
    have z1 := hb1.size
    obtain ⟨x0, x1, x2, x3⟩ := Cells.out w1 hb1
    have Hb1 := Lib.hid hb1; clear hb1
    have Hle := Lib.hid hle; clear hle
    go_wp2
    generalize hw2 : ((w1.alloc (.cells #[.int .i64 least] 2)).alloc (.cells #[.slice none 0 0] 26)).alloc (.cells #[(.func (.func 15) #[] #[.pointer (some ⟨w1.heap.size + 1, 0, none⟩), .pointer (some ⟨w.heap.size, 0, none⟩), .pointer (some ⟨w1.heap.size, 0, none⟩), .pointer (some ⟨w1.heap.size + 1 + 1, 0, none⟩)])] 48) = w2
    have hb2 : Below w1.heap.size w1 w2 := by
      rw [← hw2]
      exact (((Below.refl _ _).alloc (Nat.le_refl _) _).alloc (by simp) _).alloc (by simp; omega) _
    have z2 : w2.heap.size = w1.heap.size + 3 := by rw [← hw2]; simp
    have hbl : Blk w2 w1.heap.size 2 #[.int .i64 least] := by rw [← hw2]; exact ((Blk.new _ _ _).alloc _).alloc _
    have hbo : Blk w2 (w1.heap.size + 1) 26 #[.slice none 0 0] := by
      rw [← hw2]
      have h1 := Blk.new (w1.alloc (.cells #[.int .i64 least] 2)) 26 #[.slice none 0 0]
      rw [show (w1.alloc (.cells #[.int .i64 least] 2)).heap.size = w1.heap.size + 1 from by simp] at h1
      exact h1.alloc _
    have hbk : Blk w2 (w1.heap.size + 1 + 1) 48 #[(.func (.func 15) #[] #[.pointer (some ⟨w1.heap.size + 1, 0, none⟩), .pointer (some ⟨w.heap.size, 0, none⟩), .pointer (some ⟨w1.heap.size, 0, none⟩), .pointer (some ⟨w1.heap.size + 1 + 1, 0, none⟩)])] := by
      rw [← hw2]
      have h1 := Blk.new ((w1.alloc (.cells #[.int .i64 least] 2)).alloc (.cells #[.slice none 0 0] 26)) 48 #[(.func (.func 15) #[] #[.pointer (some ⟨w1.heap.size + 1, 0, none⟩), .pointer (some ⟨w.heap.size, 0, none⟩), .pointer (some ⟨w1.heap.size, 0, none⟩), .pointer (some ⟨w1.heap.size + 1 + 1, 0, none⟩)])]
      rw [show ((w1.alloc (.cells #[.int .i64 least] 2)).alloc (.cells #[.slice none 0 0] 26)).heap.size = w1.heap.size + 1 + 1 from by simp] at h1
      exact h1
    clear hw2
    have hz0' := Hb0.out.size
    have hold : ∀ k, Old W0 k → w2.heap[k]? = W0.heap[k]? ∧ Side (w1.heap.size + 1) (.slice none 0 0) w2 k := fun k hk => by
      have hk' : k < W0.heap.size := hk
      refine ⟨(hb2.block k (by omega)).trans (Hb1.out.block k hk'), by omega, by omega, fun e => by cases e⟩
    have hat : LookAt f least w1.heap.size (w1.heap.size + 1) w.heap.size w1.heap.size (w1.heap.size + 1 + 1) (.func (.func 15) #[] #[.pointer (some ⟨w1.heap.size + 1, 0, none⟩), .pointer (some ⟨w.heap.size, 0, none⟩), .pointer (some ⟨w1.heap.size, 0, none⟩), .pointer (some ⟨w1.heap.size + 1 + 1, 0, none⟩)]) A1 c1 A2 c2 A3 c3 A4 c4 w2 none 0 0 [] :=
      ⟨H0.out.keep hold, (Hbl0.out.same (Hb1.out.block _ hl0)).same (hb2.block _ (by omega)), hbl, hbk, hbo, Own.nil, ⟨by omega, by omega, fun e => by cases e⟩, ⟨by omega, by omega, fun e => by cases e⟩, ⟨by omega, by omega, fun e => by cases e⟩, by omega, (fun e => by cases e), by omega⟩
    have hlo2 : SlAt (pI .i64) (Side (w1.heap.size + 1) (.slice none 0 0) w2) w2 A1 c1 f.lo := hat.fit.l
    have hhi2 : SlAt (pI .i64) (Side (w1.heap.size + 1) (.slice none 0 0) w2) w2 A2 c2 f.hi := hat.fit.h
    have hlook : ∀ W, Below w2.heap.size w2 W → Calls Try.prog 15 #[.agg #[.slice A1 f.lo.length c1, .slice A2 f.hi.length c2], .pointer (some ⟨w1.heap.size + 1, 0, none⟩), .pointer (some ⟨w.heap.size, 0, none⟩), .pointer (some ⟨w1.heap.size, 0, none⟩), .pointer (some ⟨w1.heap.size + 1 + 1, 0, none⟩)] W
        (LookPost f least w1.heap.size (w1.heap.size + 1) w.heap.size w1.heap.size (w1.heap.size + 1 + 1) (.func (.func 15) #[] #[.pointer (some ⟨w1.heap.size + 1, 0, none⟩), .pointer (some ⟨w.heap.size, 0, none⟩), .pointer (some ⟨w1.heap.size, 0, none⟩), .pointer (some ⟨w1.heap.size + 1 + 1, 0, none⟩)]) A1 c1 A2 c2 A3 c3 A4 c4 W (.slice none 0 0) (lookF f least (span f.lo f.hi + 1) f.lo f.hi [])) := fun W hW =>
      look_calls f least w1.heap.size (w1.heap.size + 1) w.heap.size w1.heap.size (w1.heap.size + 1 + 1) A1 c1 A2 c2 A3 c3 A4 c4 (span f.lo f.hi + 1) f.lo f.hi A1 c1 A2 c2 W none 0 0 [] (hat.below hW) (hat.below hW).fit.l (hat.below hW).fit.h Hok.out (by rw [← Hle.out]; exact Hmin.out) (Nat.lt_succ_self _) (by simp)
    obtain ⟨out1, ho1⟩ : ∃ out1, lookF f least (span f.lo f.hi + 1) f.lo f.hi [] = out1 := ⟨_, rfl⟩
    rw [ho1] at hlook
    have sk : ∀ W, Below w2.heap.size w2 W → W.cell? ⟨w1.heap.size + 1 + 1, 0, none⟩ = some (.func (.func 15) #[] #[.pointer (some ⟨w1.heap.size + 1, 0, none⟩), .pointer (some ⟨w.heap.size, 0, none⟩), .pointer (some ⟨w1.heap.size, 0, none⟩), .pointer (some ⟨w1.heap.size + 1 + 1, 0, none⟩)]) ∧ W.cell? ⟨w.heap.size, 0, none⟩ = some (.slice A1 f.lo.length c1) ∧ W.cell? ⟨w.heap.size, 1, none⟩ = some (.slice A2 f.hi.length c2) ∧ W.cell? ⟨w.heap.size, 2, none⟩ = some (.slice A3 f.terms.length c3) ∧ W.cell? ⟨w.heap.size, 3, none⟩ = some (.slice A4 f.goals.length c4) := fun W hW =>
      ⟨(hat.below hW).bk.cell 0, (hat.below hW).bf.four⟩
    have hpl : proveL f = out1 := by unfold proveL; rw [Hle.out]; exact ho1
    have hwh : ∀ W, Below w2.heap.size w2 W → Calls Try.prog 18 #[.agg #[.slice A1 f.lo.length c1, .slice A2 f.hi.length c2, .slice A3 f.terms.length c3, .slice A4 f.goals.length c4]] W fun e W' => e = .returned (.agg #[.slice A1 f.lo.length c1, .slice A2 f.hi.length c2]) ∧ Below w2.heap.size w2 W' := fun W hW =>
      (whole_calls f A1 c1 A2 c2 A3 c3 A4 c4 W).mono fun e W' ⟨he, hb⟩ => ⟨he, hW.trans (hb.mono hW.size)⟩
    have hbase : Below w2.heap.size w2 w2.drew := below_drew (Below.refl _ _)
    obtain ⟨y0, y1, y2, y3, y4⟩ := sk w2 (Below.refl _ _)
    have Hb2 := Lib.hid hb2; clear hb2
    have Hbl := Lib.hid hbl; clear hbl
    have Hbo := Lib.hid hbo; clear hbo
    have Hbk := Lib.hid hbk; clear hbk
    have Hat := Lib.hid hat; clear hat
    have Hlo2 := Lib.hid hlo2; clear hlo2
    have Hhi2 := Lib.hid hhi2; clear hhi2
    have Hlook := Lib.hid hlook; clear hlook
    have Ho1 := Lib.hid ho1; clear ho1
    have Sk := Lib.hid sk; clear sk
    have Hpl := Lib.hid hpl; clear hpl
    have Hwh := Lib.hid hwh; clear hwh
    have Hold := Lib.hid hold; clear hold
    clear x0 x1 x2 x3
    go_region_held3 (fun w' => w'.cell? ⟨w1.heap.size + 1 + 1, 0, none⟩ = some (.func (.func 15) #[] #[.pointer (some ⟨w1.heap.size + 1, 0, none⟩), .pointer (some ⟨w.heap.size, 0, none⟩), .pointer (some ⟨w1.heap.size, 0, none⟩), .pointer (some ⟨w1.heap.size + 1 + 1, 0, none⟩)]) ∧ w'.cell? ⟨w.heap.size, 0, none⟩ = some (.slice A1 f.lo.length c1) ∧ w'.cell? ⟨w.heap.size, 1, none⟩ = some (.slice A2 f.hi.length c2) ∧ w'.cell? ⟨w.heap.size, 2, none⟩ = some (.slice A3 f.terms.length c3) ∧ w'.cell? ⟨w.heap.size, 3, none⟩ = some (.slice A4 f.goals.length c4))
      (first | exact Sk.out _ (by assumption) | assumption)
      (first
        | (go_at_call 18; refine (Hwh.out _ ?_).mono ?_; (first | assumption | simp [*]); rintro e wv ⟨rfl, hB3⟩)
        | (go_at_call 15; refine (Hlook.out _ ?_).mono ?_; (first | assumption | simp [*]); rintro e wx ⟨rfl, A', n', c', hatx, hkx⟩; have hs9 := And.intro (hatx.bk.cell 0) hatx.bf.four))
    obtain ⟨hon1, hon2⟩ := hatx.own.sl'
    have m9 := hon2.lenle
    have yc := hatx.bo.cell 0
    have z2' := Hb2.out.size
    have h12 : Below w1.heap.size w1 wx := Hb2.out.trans ((hB3.mono z2').trans hkx.bel)
    have tot : Below w.heap.size w wx := Hb0.out.trans ((Hb1.out.trans (h12.mono z1)).mono (by omega))
    have hres : SlAt pCubF (fun k => w.heap.size ≤ k ∧ k < wx.heap.size) wx A' c' out1 := hon2.wide fun k hk => ⟨by
      rcases hk.1 with h1 | h1
      · have := h1.1; omega
      · omega, hk.2⟩
    have hpf : proveF f = if 2000 < n' then ([], 4) else (out1, 0) := by unfold proveF; rw [if_pos Hck.out, Hpl.out, hon1]
    have Hon2 := Lib.hid hon2; clear hon2
    have H12 := Lib.hid h12; clear h12
    have Tot := Lib.hid tot; clear tot
    have Hres := Lib.hid hres; clear hres
    have Hatx := Lib.hid hatx; clear hatx
    have Hkx := Lib.hid hkx; clear hkx
    have HB3 := Lib.hid hB3; clear hB3
    by_cases hm : 2000 < n'
    · rw [if_pos hm] at hpf
      have Hpf := Lib.hid hpf; clear hpf
      have Hon1 := Lib.hid hon1; clear hon1
      go_wp2
      go_ret2
      exact ⟨Tot.out, none, 0, by rw [Hpf.out]; rfl, by rw [Hpf.out]; exact cubs_nilF⟩
    · rw [if_neg hm] at hpf
      have Hpf := Lib.hid hpf; clear hpf
      have Hon1 := Lib.hid hon1; clear hon1
      go_wp2
      go_ret2
      exact ⟨Tot.out, A', c', by rw [Hpf.out, ← Hon1.out]; rfl, by rw [Hpf.out]; exact Hres.out⟩
  · have e0 : (checkFit f != 0) = true := by simp [hck]
    have hpf : proveF f = ([], checkFit f) := by unfold proveF; rw [if_neg hck]
    have Hck := Lib.hid hck; clear hck
    have Hpf := Lib.hid hpf; clear hpf
    go_enter Try.func6, Try.ntmps6
    go_wp2_with fail
    rw [← HW0.out]
    refine (best_calls f A1 c1 A2 c2 A3 c3 A4 c4 W0 H0.out).mono ?_
    rintro e w1 ⟨hb1, hc⟩
    rcases hc with ⟨_, rfl⟩ | ⟨hc, _⟩
    · have z1 := hb1.size
      have Hb1 := Lib.hid hb1; clear hb1
      go_wp2
      go_ret2
      refine ⟨?_, none, 0, by rw [Hpf.out]; rfl, by rw [Hpf.out]; exact cubs_nilF⟩
      exact Hb0.out.trans ((Hb1.out.alloc Hb1.out.size _).mono (by omega))
    · exact absurd hc Hck.out
theorem prove_calls (f : Fit) (A1 : Option Addr) (c1 : Nat) (A2 : Option Addr) (c2 : Nat) (A3 : Option Addr) (c3 : Nat) (A4 : Option Addr) (c4 : Nat) (w : World) (h : FitAt f (Old w) w A1 c1 A2 c2 A3 c3 A4 c4) : Calls Try.prog 6 #[.agg #[.slice A1 f.lo.length c1, .slice A2 f.hi.length c2, .slice A3 f.terms.length c3, .slice A4 f.goals.length c4]] w (ProvePost f w) :=
  (prove_callsF f A1 c1 A2 c2 A3 c3 A4 c4 w h).mono fun _ _ ⟨h1, A, c, h2, h3⟩ => ⟨h1, A, c, h2, slAt_cubF h3⟩
end Go.Proofs.Ytfeafembifdklaa
