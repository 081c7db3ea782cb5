/-
  Layer 7: the examples' rules with their blocks known; found; the lists that are refused (plain).
-/
import Derived.Test.YtmcgfhgpldfknaaDoorQb
namespace Go.Proofs.YtmcgfhgpldfknaaDoor
open Go.RowKit Go.Sort
set_option linter.unusedVariables false

def NewIn (lo : Nat) (w : World) (k : Nat) : Prop := lo ≤ k ∧ k < w.heap.size
theorem SlAt.laterN {α : Type} {E : Rp α} {lo : Nat} {w w' : World} {A : Option Addr} {c : Nat} {xs : List α} (h : SlAt E (NewIn lo w) w A c xs) (hb : Below w.heap.size w w') : SlAt E (NewIn lo w') w' A c xs :=
  (h.keep fun k hk => hb.block k hk.2).wide fun k hk => ⟨hk.1, Nat.lt_of_lt_of_le hk.2 hb.size⟩
theorem lit_newN {α : Type} {E : Rp α} {lo : Nat} {w : World} {t : TypeId} {cells : Array Value} {xs : List α} (hlo : lo ≤ w.heap.size) (h : CellsAre E (NewIn lo w) w cells.toList xs) (hm : xs.length ≤ maxLen) {n : Nat} (hn : xs.length = n) :
    SlAt E (NewIn lo (w.alloc (.cells cells t))) (w.alloc (.cells cells t)) (some ⟨w.heap.size, 0, none⟩) n xs :=
  sl_lit (Blk.new w t cells) ((CellsAre.keep (fun k hk => Below.heap_alloc _ _ _ hk.2) h).wide fun k hk => ⟨hk.1, by have := hk.2; simp; omega⟩) ⟨hlo, by simp⟩ hm hn

def doubR : List Rul := [⟨70, 1, 0, 0, [], 0, [⟨70, [⟨0, [2]⟩]⟩, ⟨70, [⟨0, [1]⟩]⟩]⟩]
def O5 : List Shp := [⟨70, [⟨0, [1]⟩]⟩, ⟨91, []⟩, ⟨43, []⟩, ⟨65, [⟨-1, [1]⟩]⟩, ⟨93, []⟩]
def P1 : List Shp := [⟨70, [⟨0, [0]⟩]⟩]
def spoilR (n1 a1 l1 wt2 : Int) (G : List Frm) (P : List Shp) : List Rul := [⟨n1, a1, l1, 0, G, 0, O5⟩, ⟨65, 1, 0, 0, [], wt2, P⟩]
def G1 : List Frm := [⟨-1, [1]⟩]
def longP : List Shp := List.replicate 21 ⟨0, []⟩
def openP : List Shp := [⟨93, []⟩, ⟨91, []⟩]
def bigR : List Rul := List.replicate 41 ⟨0, 0, 0, 0, [], 0, []⟩
theorem chk_all : checkR [] = 0 ∧ checkR (spoilR 65 1 0 0 G1 longP) = 4 ∧ checkR bigR = 4 ∧ checkR (spoilR 65 1 70 0 G1 P1) = 8 ∧ checkR (spoilR 65 1 0 1 G1 P1) = 8 ∧ checkR (spoilR 65 1 0 0 G1 openP) = 8 ∧ checkR (spoilR 65 2 0 0 G1 P1) = 8 ∧ checkR (spoilR 65 1 0 0 [⟨-1000001, [1]⟩] P1) = 8 ∧ checkR (spoilR 91 1 0 0 G1 P1) = 8 := by decide +kernel
theorem sml_all : greatR [] = false ∧ greatR (spoilR 65 1 0 0 G1 longP) = false ∧ greatR bigR = false ∧ greatR (spoilR 65 1 70 0 G1 P1) = false ∧ greatR (spoilR 65 1 0 1 G1 P1) = false ∧ greatR (spoilR 65 1 0 0 G1 openP) = false ∧ greatR (spoilR 65 2 0 0 G1 P1) = false ∧ greatR (spoilR 65 1 0 0 [⟨-1000001, [1]⟩] P1) = false ∧ greatR (spoilR 91 1 0 0 G1 P1) = false ∧ greatR doubR = false ∧ greatR givenR = false := by decide +kernel
theorem val_all : (valueF ⟨0, [2]⟩ [500000001]).2 = 16 ∧ (valueF ⟨0, [2]⟩ []).2 = 8 ∧ (valueF ⟨0, [2]⟩ [1000000001]).2 = 8 ∧ valueF ⟨7, [-3]⟩ [5] = (-8, 0) := by decide +kernel
theorem run_all : (rStepF doubR [⟨70, [500000001]⟩]).2 = 16 ∧ (rRunF doubR [⟨70, [0]⟩] 11).2 = 4 ∧ (rRunF doubR [⟨70, [0]⟩] 10).2 = 0 ∧ (rRunF doubR [⟨70, [0]⟩] 10).1.length = 1024 ∧ (rRunF doubR [] 31).2 = 2 ∧ (rRunF doubR [⟨93, []⟩] 31).2 = 28 := by decide +kernel
theorem fnd_all : findF givenR ⟨65, [1]⟩ = (0, 0) ∧ findF givenR ⟨65, [0]⟩ = (1, 0) ∧ findF givenR ⟨65, [-1000000000]⟩ = (1, 0) ∧ findF givenR ⟨65, []⟩ = (-1, 0) ∧ findF givenR ⟨65, [1, 1]⟩ = (-1, 0) ∧ findF givenR ⟨70, [1]⟩ = (-1, 0) ∧ findF givenR ⟨93, []⟩ = (-1, 0) := by decide +kernel

abbrev RowC (n1 a1 l1 wt2 : Int) (vg vo vp : Value) : Array Value := #[.int .u8 n1, .int .i64 a1, .int .u8 l1, .int .u8 0, vg, .int .i64 0, vo, .int .u8 65, .int .i64 1, .int .u8 0, .int .u8 0, .slice none 0 0, .int .i64 wt2, vp]
theorem row_sl {F : Nat → Prop} {W : World} {g : Nat} {n1 a1 l1 wt2 : Int} {Ag Ao Ap : Option Addr} {kg ko kp cg co cp : Nat} {G : List Frm} {P : List Shp} (h : Blk W g 35 (RowC n1 a1 l1 wt2 (.slice Ag kg cg) (.slice Ao ko co) (.slice Ap kp cp))) (hF : F g)
    (f1 : Fits .u8 n1) (f2 : Fits .i64 a1) (f3 : Fits .u8 l1) (f4 : Fits .i64 wt2) (sg : SlAt pFrm F W Ag cg G) (so : SlAt pShp F W Ao co O5) (sp : SlAt pShp F W Ap cp P) (hg : G.length = kg) (ho : O5.length = ko) (hp : P.length = kp) :
    SlAt pRul F W (some ⟨g, 0, none⟩) 2 (spoilR n1 a1 l1 wt2 G P) := by
  subst hg ho hp
  exact sl_lit (E := pRul) (xs := spoilR n1 a1 l1 wt2 G P) h ⟨[.int .u8 n1, .int .i64 a1, .int .u8 l1, .int .u8 0, .slice Ag G.length cg, .int .i64 0, .slice Ao O5.length co], [.int .u8 65, .int .i64 1, .int .u8 0, .int .u8 0, .slice none 0 0, .int .i64 wt2, .slice Ap P.length cp], rfl,
    ⟨Ag, cg, Ao, co, rfl, ⟨f1, f2, f3, fits_u8 (n := 0) (by decide), fits_i64 (n := 0) (by decide)⟩, sg, so⟩,
    _, [], rfl, ⟨none, 0, Ap, cp, rfl, ⟨fits_u8 (n := 65) (by decide), fits_i64 (n := 1) (by decide), fits_u8 (n := 0) (by decide), fits_u8 (n := 0) (by decide), f4⟩, sl_none, sp⟩, rfl⟩ hF (by show 2 ≤ maxLen; decide) rfl
/-- the examples' rules, the blocks of the list and of its guard known -/
structure GivR (lo hi : Nat) (W : World) (g gg gf : Nat) (Ao Ap : Option Addr) : Prop where
  b0 : lo ≤ gg
  b1 : gg < g
  b2 : g < hi
  blk : Blk W g 35 (RowC 65 1 0 0 (.slice (some ⟨gg, 0, none⟩) 1 1) (.slice Ao 5 5) (.slice Ap 1 1))
  gb : Blk W gg 49 #[.int .i64 (-1), .slice (some ⟨gf, 0, none⟩) 1 1]
  cf : SlAt (pI .i64) (fun k => lo ≤ k ∧ k < gg) W (some ⟨gf, 0, none⟩) 1 [1]
  so : SlAt pShp (fun k => gg < k ∧ k < g) W Ao 5 O5
  sp : SlAt pShp (fun k => gg < k ∧ k < g) W Ap 1 P1
theorem GivR.keep {lo hi : Nat} {W W' : World} {g gg gf : Nat} {Ao Ap : Option Addr} (h : GivR lo hi W g gg gf Ao Ap) (hk : ∀ k, lo ≤ k → k < hi → W'.heap[k]? = W.heap[k]?) : GivR lo hi W' g gg gf Ao Ap := by
  have h0 := h.b0
  have h1 := h.b1
  have h2 := h.b2
  exact ⟨h0, h1, h2, h.blk.same (hk g (by omega) h2), h.gb.same (hk gg h0 (by omega)), h.cf.keep fun k q => hk k q.1 (by have := q.2; omega), h.so.keep fun k q => hk k (by have := q.1; omega) (by have := q.2; omega), h.sp.keep fun k q => hk k (by have := q.1; omega) (by have := q.2; omega)⟩
/-- the parts, where only the list's own block has been written -/
theorem GivR.parts {lo hi : Nat} {W W' : World} {g gg gf : Nat} {Ao Ap : Option Addr} {F : Nat → Prop} (h : GivR lo hi W g gg gf Ao Ap) (hk : ∀ k, lo ≤ k → k < hi → k ≠ g → W'.heap[k]? = W.heap[k]?) (hF : ∀ k, lo ≤ k → k < hi → F k) :
    SlAt pFrm F W' (some ⟨gg, 0, none⟩) 1 G1 ∧ SlAt pShp F W' Ao 5 O5 ∧ SlAt pShp F W' Ap 1 P1 := by
  have h0 := h.b0
  have h1 := h.b1
  have h2 := h.b2
  refine ⟨sl_lit (E := pFrm) (xs := G1) (h.gb.same (hk gg h0 (by omega) (by omega))) ⟨_, [], rfl, frm_R (fits_i64 (n := -1) (by decide)) ((h.cf.keep fun k q => hk k q.1 (by have := q.2; omega) (by have := q.2; omega)).wide fun k q => hF k q.1 (by have := q.2; omega)) rfl, rfl⟩ (hF gg h0 (by omega)) (by unfold maxLen; decide) rfl,
    (h.so.keep fun k q => hk k (by have := q.1; omega) (by have := q.2; omega) (by have := q.2; omega)).wide fun k q => hF k (by have := q.1; omega) (by have := q.2; omega),
    (h.sp.keep fun k q => hk k (by have := q.1; omega) (by have := q.2; omega) (by have := q.2; omega)).wide fun k q => hF k (by have := q.1; omega) (by have := q.2; omega)⟩
theorem setCell_else (w : World) (a : Addr) (v : Value) (q : Nat) (h : q ≠ a.block) : (w.setCell a v).heap[q]? = w.heap[q]? := by
  unfold World.setCell; rw [Array.getElem?_modify, if_neg (Ne.symm h)]
/-- the guard's constant, written -/
theorem GivR.coef {lo hi : Nat} {W : World} {g gg gf : Nat} {Ao Ap : Option Addr} {F : Nat → Prop} (h : GivR lo hi W g gg gf Ao Ap) (hF : ∀ k, lo ≤ k → k < hi → F k) :
    SlAt pRul F (W.setCell ⟨gg, 0, none⟩ (.int .i64 (-1000001))) (some ⟨g, 0, none⟩) 2 (spoilR 65 1 0 0 [⟨-1000001, [1]⟩] P1) := by
  have h0 := h.b0
  have h1 := h.b1
  have h2 := h.b2
  have hk : ∀ k, k ≠ gg → (W.setCell ⟨gg, 0, none⟩ (.int .i64 (-1000001))).heap[k]? = W.heap[k]? := fun k hk => setCell_else _ _ _ _ hk
  have hgb : Blk (W.setCell ⟨gg, 0, none⟩ (.int .i64 (-1000001))) gg 49 #[.int .i64 (-1000001), .slice (some ⟨gf, 0, none⟩) 1 1] := h.gb.set 0 _
  exact row_sl (h.blk.same (hk g (by omega))) (hF g (by omega) h2) (fits_u8 (by decide)) (fits_i64 (by decide)) (fits_u8 (by decide)) (fits_i64 (by decide))
    (sl_lit (E := pFrm) (xs := [⟨-1000001, [1]⟩]) hgb ⟨_, [], rfl, frm_R (fits_i64 (n := -1000001) (by decide)) ((h.cf.keep fun k q => hk k (by have := q.2; omega)).wide fun k q => hF k q.1 (by have := q.2; omega)) rfl, rfl⟩ (hF gg h0 (by omega)) (by unfold maxLen; decide) rfl)
    ((h.so.keep fun k q => hk k (by have := q.1; omega)).wide fun k q => hF k (by have := q.1; omega) (by have := q.2; omega))
    ((h.sp.keep fun k q => hk k (by have := q.1; omega)).wide fun k q => hF k (by have := q.1; omega) (by have := q.2; omega)) rfl rfl rfl

def LawFormPostN (c x : Int) (w : World) (e : Ending) (w' : World) : Prop := ∃ g, e = .returned (.agg #[.int .i64 c, .slice (some ⟨g, 0, none⟩) 1 1]) ∧ Hid (SlAt (pI .i64) (NewIn w.heap.size w') w' (some ⟨g, 0, none⟩) 1 [x]) ∧ Below w.heap.size w w'
set_option maxRecDepth 100000 in
set_option maxHeartbeats 1000000 in
theorem lawForm_callsN (c x : Int) (w : World) (hc : Fits .i64 c) (hx : Fits .i64 x) : Calls Tryd.prog 20 #[.int .i64 c, .int .i64 x] w (LawFormPostN c x w) := by
  have hx' := hx.i64
  go_enter Tryd.func20, Tryd.ntmps20
  go_wp2
  (try simp only [Exit.inBlock, Exit.then])
  obtain ⟨v1, hv1⟩ : ∃ v1, v1 = w.alloc (.cells #[.int .i64 c, .slice (some ⟨w.heap.size + 1, 0, none⟩) 1 1] 49) := ⟨_, rfl⟩
  have hz1 : v1.heap.size = w.heap.size + 1 := by rw [hv1]; simp
  have hb1 : Blk v1 w.heap.size 49 #[.int .i64 c, .slice (some ⟨w.heap.size + 1, 0, none⟩) 1 1] := by rw [hv1]; exact Blk.new _ _ _
  have hw1 : Below w.heap.size w v1 := by rw [hv1]; exact bl _
  rw [← hv1]
  refine bodyPost_ret (results_cell_row rfl _ _ w.heap.size 49 #[.int .i64 c, .slice (some ⟨w.heap.size + 1, 0, none⟩) 1 1] (0, 0) _ rfl (hb1.alloc _) Tryd.underlying49 rfl (by kernel_rfl)) rfl ?_
  refine ⟨w.heap.size + 1, rfl, ?_, hw1.trans ((bl _).mono hw1.size)⟩
  rw [← hz1]
  exact lit_newN (E := pI .i64) (cells := #[.int .i64 x]) (by omega) (ints_lit (xs := [x]) (by simp; omega)) (by unfold maxLen; simp) (n := 1) rfl
def GivPost (w : World) (e : Ending) (w' : World) : Prop := ∃ g gg gf Ao Ap, e = .returned (.slice (some ⟨g, 0, none⟩) 2 2) ∧ Below w.heap.size w w' ∧ Hid (GivR w.heap.size w'.heap.size w' g gg gf Ao Ap)
set_option maxRecDepth 100000 in
set_option maxHeartbeats 4000000 in
theorem givenN_calls (w : World) : Calls Tryd.prog 17 #[] w (GivPost w) := by
  have fm1 : Fits .i64 (-1) := fits_i64 (by decide)
  have f0 : Fits .i64 0 := fits_i64 (by decide)
  have f1 : Fits .i64 1 := fits_i64 (by decide)
  have u65 : Fits .u8 65 := fits_u8 (by decide)
  have u70 : Fits .u8 70 := fits_u8 (by decide)
  have u91 : Fits .u8 91 := fits_u8 (by decide)
  have u43 : Fits .u8 43 := fits_u8 (by decide)
  have u93 : Fits .u8 93 := fits_u8 (by decide)
  go_enter Tryd.func17, Tryd.ntmps17
  go_wp2_with fail
  refine (lawForm_callsN (-1) 1 w fm1 f1).mono ?_
  rintro e w1 ⟨g1, rfl, s1, b1⟩
  have B1 := Lib.hid (Blk.new w1 49 #[.int .i64 (-1), .slice (some ⟨g1, 0, none⟩) 1 1])
  have C1 := Lib.hid (((s1.out.keep fun q hq => Below.heap_alloc w1 (.cells #[.int .i64 (-1), .slice (some ⟨g1, 0, none⟩) 1 1] 49) q hq.2).wide (F' := fun k => w.heap.size ≤ k ∧ k < w1.heap.size) fun q hq => hq))
  have z01 := b1.size
  have T1 := Lib.hid (b1.trans ((bl (.cells #[.int .i64 (-1), .slice (some ⟨g1, 0, none⟩) 1 1] 49)).mono b1.size))
  obtain ⟨v1, hv1⟩ : ∃ v1, v1 = w1.alloc (.cells #[.int .i64 (-1), .slice (some ⟨g1, 0, none⟩) 1 1] 49) := ⟨_, rfl⟩
  rw [← hv1] at B1 C1 T1
  have z1 : v1.heap.size = w1.heap.size + 1 := by rw [hv1]; simp
  have K1 := Lib.hid (Below.refl v1.heap.size v1)
  clear b1 s1
  go_wp2_with fail
  rw [← hv1]
  refine (lawForm_callsN 0 1 v1 f0 f1).mono ?_
  rintro e w2 ⟨g2, rfl, s2, b2⟩
  have y2 := b2.size
  have G2 := Lib.hid (lit_newN (lo := v1.heap.size) (E := pFrm) (w := w2) (t := 49) (cells := #[.int .i64 0, .slice (some ⟨g2, 0, none⟩) 1 1]) (xs := [⟨0, [1]⟩]) (by omega) ⟨_, [], rfl, frm_R f0 s2.out rfl, rfl⟩ (by decide) (n := 1) rfl)
  have k2 := bl (w := w2) (.cells #[.int .i64 0, .slice (some ⟨g2, 0, none⟩) 1 1] 49)
  obtain ⟨v2, hv2⟩ : ∃ v2, v2 = w2.alloc (.cells #[.int .i64 0, .slice (some ⟨g2, 0, none⟩) 1 1] 49) := ⟨_, rfl⟩
  rw [← hv2] at G2 k2
  have z2 : v2.heap.size = w2.heap.size + 1 := by rw [hv2]; simp
  have m2 := b2.trans (k2.mono b2.size)
  have T2 := Lib.hid (T1.out.trans (m2.mono T1.out.size))
  have K2 := Lib.hid m2
  clear b2 s2 k2 m2 K1
  have Hv1 := Lib.hid hv1; clear hv1
  go_wp2_with fail
  rw [← hv2]
  refine (lawForm_callsN (-1) 1 v2 fm1 f1).mono ?_
  rintro e w3 ⟨g3, rfl, s3, b3⟩
  have y3 := b3.size
  have s3' := s3.out.wide (F' := NewIn v1.heap.size w3) fun q hq => ⟨by have := hq.1; omega, hq.2⟩
  have G3 := Lib.hid (lit_newN (lo := v1.heap.size) (E := pFrm) (w := w3) (t := 49) (cells := #[.int .i64 (-1), .slice (some ⟨g3, 0, none⟩) 1 1]) (xs := [⟨-1, [1]⟩]) (by omega) ⟨_, [], rfl, frm_R fm1 s3' rfl, rfl⟩ (by decide) (n := 1) rfl)
  have k3 := bl (w := w3) (.cells #[.int .i64 (-1), .slice (some ⟨g3, 0, none⟩) 1 1] 49)
  obtain ⟨v3, hv3⟩ : ∃ v3, v3 = w3.alloc (.cells #[.int .i64 (-1), .slice (some ⟨g3, 0, none⟩) 1 1] 49) := ⟨_, rfl⟩
  rw [← hv3] at G3 k3
  have z3 : v3.heap.size = w3.heap.size + 1 := by rw [hv3]; simp
  have m3 := b3.trans (k3.mono b3.size)
  have T3 := Lib.hid (T2.out.trans (m3.mono T2.out.size))
  have K3 := Lib.hid (K2.out.trans (m3.mono K2.out.size))
  have G23 := G2.out.laterN m3
  clear b3 s3 s3' k3 m3 G2 K2
  have G4 := lit_newN (lo := v1.heap.size) (E := pShp) (w := v3) (t := 47) (cells := #[.int .u8 70, .slice (some ⟨w2.heap.size, 0, none⟩) 1 1, .int .u8 91, .slice none 0 0, .int .u8 43, .slice none 0 0, .int .u8 65, .slice (some ⟨w3.heap.size, 0, none⟩) 1 1, .int .u8 93, .slice none 0 0])
    (xs := O5) (by omega)
    ⟨_, [.int .u8 91, .slice none 0 0, .int .u8 43, .slice none 0 0, .int .u8 65, .slice (some ⟨w3.heap.size, 0, none⟩) 1 1, .int .u8 93, .slice none 0 0], rfl, shp_R u70 G23 rfl,
     _, [.int .u8 43, .slice none 0 0, .int .u8 65, .slice (some ⟨w3.heap.size, 0, none⟩) 1 1, .int .u8 93, .slice none 0 0], rfl, shp_R u91 sl_none rfl,
     _, [.int .u8 65, .slice (some ⟨w3.heap.size, 0, none⟩) 1 1, .int .u8 93, .slice none 0 0], rfl, shp_R u43 sl_none rfl,
     _, [.int .u8 93, .slice none 0 0], rfl, shp_R u65 G3.out rfl, _, [], rfl, shp_R u93 sl_none rfl, rfl⟩ (by decide) (n := 5) rfl
  have k4 := bl (w := v3) (.cells #[.int .u8 70, .slice (some ⟨w2.heap.size, 0, none⟩) 1 1, .int .u8 91, .slice none 0 0, .int .u8 43, .slice none 0 0, .int .u8 65, .slice (some ⟨w3.heap.size, 0, none⟩) 1 1, .int .u8 93, .slice none 0 0] 47)
  obtain ⟨v4, hv4⟩ : ∃ v4, v4 = v3.alloc (.cells #[.int .u8 70, .slice (some ⟨w2.heap.size, 0, none⟩) 1 1, .int .u8 91, .slice none 0 0, .int .u8 43, .slice none 0 0, .int .u8 65, .slice (some ⟨w3.heap.size, 0, none⟩) 1 1, .int .u8 93, .slice none 0 0] 47) := ⟨_, rfl⟩
  rw [← hv4] at G4 k4
  have z4 : v4.heap.size = v3.heap.size + 1 := by rw [hv4]; simp
  have K4 := Lib.hid (K3.out.trans (k4.mono K3.out.size))
  have T4 := Lib.hid (T3.out.trans (k4.mono T3.out.size))
  clear G23 G3 k4 K3
  have Hv3 := Lib.hid hv3; clear hv3
  go_wp2_with fail
  rw [← Hv3.out, ← hv4]
  refine (lawForm_callsN 0 0 v4 f0 f0).mono ?_
  rintro e w5 ⟨g5, rfl, s5, b5⟩
  have y5 := b5.size
  have s5' := s5.out.wide (F' := NewIn v1.heap.size w5) fun q hq => ⟨by have := hq.1; omega, hq.2⟩
  have G5 := lit_newN (lo := v1.heap.size) (E := pFrm) (w := w5) (t := 49) (cells := #[.int .i64 0, .slice (some ⟨g5, 0, none⟩) 1 1]) (xs := [⟨0, [0]⟩]) (by omega) ⟨_, [], rfl, frm_R f0 s5' rfl, rfl⟩ (by decide) (n := 1) rfl
  have k5 := bl (w := w5) (.cells #[.int .i64 0, .slice (some ⟨g5, 0, none⟩) 1 1] 49)
  obtain ⟨v5, hv5⟩ : ∃ v5, v5 = w5.alloc (.cells #[.int .i64 0, .slice (some ⟨g5, 0, none⟩) 1 1] 49) := ⟨_, rfl⟩
  rw [← hv5] at G5 k5
  have z5 : v5.heap.size = w5.heap.size + 1 := by rw [hv5]; simp
  have m5 := b5.trans (k5.mono b5.size)
  have T5 := T4.out.trans (m5.mono T4.out.size)
  have K5 := K4.out.trans (m5.mono K4.out.size)
  have G45 := G4.laterN m5
  have G6 := lit_newN (lo := v1.heap.size) (E := pShp) (w := v5) (t := 47) (cells := #[.int .u8 70, .slice (some ⟨w5.heap.size, 0, none⟩) 1 1]) (xs := P1) (by omega) ⟨_, [], rfl, shp_R u70 G5 rfl, rfl⟩ (by decide) (n := 1) rfl
  have k6 := bl (w := v5) (.cells #[.int .u8 70, .slice (some ⟨w5.heap.size, 0, none⟩) 1 1] 47)
  obtain ⟨v6, hv6⟩ : ∃ v6, v6 = v5.alloc (.cells #[.int .u8 70, .slice (some ⟨w5.heap.size, 0, none⟩) 1 1] 47) := ⟨_, rfl⟩
  rw [← hv6] at G6 k6
  have T6 := T5.trans (k6.mono T5.size)
  have K6 := K5.trans (k6.mono K5.size)
  have G46 := G45.laterN k6
  have k7 := bl (w := v6) (.cells #[.int .u8 65, .int .i64 1, .int .u8 0, .int .u8 0, .slice (some ⟨w1.heap.size, 0, none⟩) 1 1, .int .i64 0, .slice (some ⟨v3.heap.size, 0, none⟩) 5 5, .int .u8 65, .int .i64 1, .int .u8 0, .int .u8 0, .slice none 0 0, .int .i64 0, .slice (some ⟨v5.heap.size, 0, none⟩) 1 1] 35)
  have T7 := T6.trans (k7.mono T6.size)
  have z6 : v6.heap.size = w5.heap.size + 1 + 1 := by rw [hv6]; simp [z5]
  obtain ⟨W, hW⟩ : ∃ W, W = v6.alloc (.cells #[.int .u8 65, .int .i64 1, .int .u8 0, .int .u8 0, .slice (some ⟨w1.heap.size, 0, none⟩) 1 1, .int .i64 0, .slice (some ⟨v3.heap.size, 0, none⟩) 5 5, .int .u8 65, .int .i64 1, .int .u8 0, .int .u8 0, .slice none 0 0, .int .i64 0, .slice (some ⟨v5.heap.size, 0, none⟩) 1 1] 35) := ⟨_, rfl⟩
  have hzW : W.heap.size = v6.heap.size + 1 := by rw [hW]; simp
  have hkW : ∀ k, k < v6.heap.size → W.heap[k]? = v6.heap[k]? := fun k hk => by rw [hW]; exact Below.heap_alloc _ _ _ hk
  have hk1 : ∀ k, k < v1.heap.size → W.heap[k]? = v1.heap[k]? := fun k hk => (hkW k (Nat.lt_of_lt_of_le hk K6.size)).trans (K6.block k hk)
  have y6 := K6.size
  have g7 : Hid (GivR w.heap.size W.heap.size W v6.heap.size w1.heap.size g1 (some ⟨v3.heap.size, 0, none⟩) (some ⟨v5.heap.size, 0, none⟩)) :=
    ⟨z01, by omega, by omega, by rw [hW]; exact Blk.new _ _ _, B1.out.same (hk1 _ (by omega)), C1.out.keep fun k q => hk1 k (by have := q.2; omega),
     (G46.keep fun k q => hkW k q.2).wide fun k q => ⟨by have := q.1; omega, q.2⟩, (G6.keep fun k q => hkW k q.2).wide fun k q => ⟨by have := q.1; omega, q.2⟩⟩
  have t7 : Hid (Below w.heap.size w W) := by rw [hW]; exact T7
  clear b5 s5 s5' k5 m5 T5 K5 K6 G45 G5 G6 k6 T6 G46 k7 G4 K4 hkW hk1 B1 C1 hzW T7
  rw [hW] at g7 t7
  rw [z6, z3, z5] at g7
  rw [z3, z5] at t7
  clear hW z1 z2 z3 z4 z5 z6 y2 y3 y5 y6 z01
  go_wp2
  rw [← hv5, ← hv6]
  go_ret
  exact ⟨_, _, _, _, _, rfl, t7.out, g7⟩
end Go.Proofs.YtmcgfhgpldfknaaDoor
